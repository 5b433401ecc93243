/- Contracts of fractions, clouds and predicates, part 36 of the proof; each lemma states its own conditions. -/
import Derived.Test.YtjdmodeenbdfpaaGreatT35
set_option linter.unusedSimpArgs false
set_option linter.unusedVariables false
noncomputable section
namespace Go.Proofs.YtjdmodeenbdfpaaGreat
open Go Go.Ab List Tryz
attribute [local simp] FzZ aA aC aF aG aH aPt aV aa ab ae af ag ai aj an ao aq aw az bO bc bd bj blk ckC cw iv partOf sPt seq1 uPt
variable(L:Lst)(run:ar)(k:Nat)(fr:List PV)(hp:List Blk)(wr:List Nat)
def agH:Code:=seq1 ckO
def agG:Code:=seq1 (cw ckO)
def ckB:Code:=blk (seq1 (cw (cw ckO)))
def WR:Code:=seq1 ckB
def yY:Code:=seq1 (cw ckB)
def WQ:Code:=seq1 (cw (cw ckB))
def WO:Code:=cw (cw (cw ckO))
theorem WN:ckO = .seq agH (.seq agG (.seq (.block 1 (.seq WR (.seq yY (.seq WQ (.block 2 (.loop ckI)))))) WO)):=rfl
theorem acH(c:List (List ByteArray))(h:CF fr c c.length) :
  ∃ fr',af (CC L) run k ckO ⟨fr,[],[]⟩=some (.exit 0,⟨fr',[],[]⟩)∧fr'.length=44:=by
 obtain⟨h0,h1,h10,h11,h12⟩:=h
 simp only[iv] at h11 h12
 simp[ckO,f80,h0,h11,h12]
theorem aiU(c:List (List ByteArray))(j:Nat)(hj:j<c.length)(h:CF fr c j) :
  ∃ fr1 fr2,af (CC L) run k agH ⟨fr,[],[]⟩=some (.normal,⟨fr1,[],[]⟩)∧af (CC L) run k agG ⟨fr1,[],[]⟩=some (.normal,⟨fr1,[],[]⟩)∧af (CC L) run k WR ⟨fr1,[],[]⟩=some (.normal,⟨fr2,[],[]⟩)∧CF fr2 c j∧nth fr2 4=pE c[j]:=by
 obtain⟨h0,h1,h10,h11,h12⟩:=h
 obtain⟨r,x1,x2⟩:=gi uCl c j hj
 generalize c[j]=p at *
 simp only[iv] at h11 h12
 refine⟨dR fr 13 (.sc (.bool true)),?_⟩
 simp[CF,agH,agG,WR,ckB,ckO,f80,and_assoc,h0,h1,h10,h11,h12,hj,x1,x2]
theorem agp (m:Nat):((m:Int) == 0)=decide (m=0):=by
 by_cases h:m=0
 ·subst h;rfl
 ·rw[decide_eq_false h,beq_eq_false_iff_ne];omega
theorem gt3 (m:Nat):((m:Int) > 3)=(3<m):=by apply propext;omega
set_option maxHeartbeats 1000000 in
theorem acJ(c:List (List ByteArray))(j:Nat)(p:List ByteArray)(hc:0<c.length)(hb:p.length=0∨3<p.length∨p.length≠c[0].length)(h:CF fr c j)(h4:nth fr 4=pE p) :
  ∃ fr',af (CC L) run k yY ⟨fr,[],[]⟩=some (.ret,⟨fr',[],[]⟩)∧nth fr' 2=iv 10:=by
 obtain⟨h0,h1,h10,h11,h12⟩:=h
 obtain⟨r,x1,x2⟩:=gi uCl c 0 hc
 rw[show (((0:Nat):Int))=(0:Int) from rfl] at x1
 generalize c[0]=q at *
 have hl:=fY p
 have hl2:=fY q
 generalize p.length=m at *
 generalize q.length=m0 at *
 by_cases b1:m=0
 ·subst b1
  simp[yY,ckB,ckO,f80,h0,h4,hl,undef]
 ·by_cases b2:3<m
  ·simp[yY,ckB,ckO,f80,h0,h4,hl,undef,b1,b2,agp,gt3]
  ·have b3:m≠m0:=by rcases hb with hb | hb | hb <;> first | exact absurd hb b1 | exact absurd hb b2 | exact hb
   simp[yY,ckB,ckO,f80,FC,h0,h1,h4,hl,hl2,x1,x2,b1,b2,b3,agp,gt3]
set_option maxHeartbeats 1000000 in
theorem agI(c:List (List ByteArray))(j:Nat)(p:List ByteArray)(hc:0<c.length)(b1:p.length≠0)(b2 : ¬ 3<p.length)(b3:p.length=c[0].length)(h:CF fr c j)(h4:nth fr 4=pE p) :
  ∃ fr1 fr',af (CC L) run k yY ⟨fr,[],[]⟩=some (.normal,⟨fr1,[],[]⟩)∧af (CC L) run k WQ ⟨fr1,[],[]⟩=some (.normal,⟨fr',[],[]⟩)∧CF fr' c j∧nth fr' 33=pE p∧nth fr' 34=iv p.length∧nth fr' 35=iv 0:=by
 obtain⟨h0,h1,h10,h11,h12⟩:=h
 obtain⟨r,x1,x2⟩:=gi uCl c 0 hc
 rw[show (((0:Nat):Int))=(0:Int) from rfl] at x1
 generalize c[0]=q at *
 have hl:=fY p
 have hl2:=fY q
 rw[← b3] at hl2
 clear b3
 generalize p.length=m at *
 obtain⟨fr1,g1,g2,g3,g4⟩:∃ fr1,af (CC L) run k yY ⟨fr,[],[]⟩=some (.normal,⟨fr1,[],[]⟩)∧CF fr1 c j∧nth fr1 4=pE p∧True:=by
  simp only[CF]
  simp[h10,h11,h12,yY,ckB,ckO,f80,and_assoc,h0,h1,h4,hl,hl2,x1,x2,b1,b2,agp,gt3]
 obtain⟨k0,k1,k10,k11,k12⟩:=g2
 refine⟨fr1,?_⟩
 rw[g1]
 simp[CF,WQ,ckB,ckO,f80,and_assoc,k0,k1,k10,k11,k12,g3,hl]
theorem aiT(c:List (List ByteArray))(j:Nat)(hj:j<1000)(h:CF fr c j) :
  ∃ fr',af (CC L) run k WO ⟨fr,[],[]⟩=some (.normal,⟨fr',[],[]⟩)∧CF fr' c (j+1):=by
 obtain⟨h0,h1,h10,h11,h12⟩:=h
 have hw:=bH j (by omega)
 simp only[iv] at h11 h12
 simp[CF,WO,ckO,f80,h0,h1,h10,h11,h12,hw]
theorem Fl (L:Lst)(run:ar)(k:Nat)(hk:200≤k)(c:List (List ByteArray))(hF:Fit c)(g:∀ s:ByteArray,(bys s).length≤100000→au L run 77 [.sc (.string s)] (.sc (.bool (pB (IsV s))))):∀ (n j:Nat) (fr:List PV),j+n=c.length→CF fr c j →
  (∃ fr',j9 (hdL c) (c.drop j)=0∧cu (af (CC L) run k ckO) (n+1) ⟨fr,[],[]⟩=some (.exit 0,⟨fr',[],[]⟩)∧fr'.length=44)∨∃ fr',j9 (hdL c) (c.drop j)≠0∧cu (af (CC L) run k ckO) (n+1) ⟨fr,[],[]⟩=some (.ret,⟨fr',[],[]⟩)∧nth fr' 2=iv (j9 (hdL c) (c.drop j))
 | 0,j,fr,hjn,h=>by
  have e:j=c.length:=by omega
  subst e
  obtain⟨fr',q1,q2⟩:=acH L run k fr c h
  rw[drop_length]
  exact .inl ⟨fr',rfl,bD q1,q2⟩
 | n+1,j,fr,hjn,h=>by
  have hj:j<c.length:=by omega
  have hc:0<c.length:=by omega
  have hh:hdL c=c[0].length:=by
   cases c with
   | nil=>simp at hc
   | cons p r=>rfl
  obtain⟨fr1,fr2,a1,a2,a3,a4,a5⟩:=aiU L run k fr c j hj h
  have hFp:=hF.2 c[j] (getElem_mem hj)
  have hFc:=hF.1
  rw[drop_eq_getElem_cons hj]
  have run_ret:∀ {fr'},af (CC L) run k (.seq WR (.seq yY (.seq WQ (.block 2 (.loop ckI))))) ⟨fr1,[],[]⟩=some (.ret,⟨fr',[],[]⟩)→cu (af (CC L) run k ckO) (n+1+1) ⟨fr,[],[]⟩=some (.ret,⟨fr',[],[]⟩):=by
   intro fr' hr
   refine eM ?_
   rw[WN,av a1,av a2]
   exact cC (kE hr)
  by_cases hb:c[j].length=0∨3<c[j].length∨c[j].length≠c[0].length
  ·obtain⟨fr',b1,b2⟩:=acJ L run k fr2 c j c[j] hc hb a4 a5
   have hcp:rQ (hdL c) c[j]=10:=by unfold rQ;rw[hh,if_pos hb]
   refine .inr ⟨fr',?_,run_ret ?_,?_⟩
   ·rw[j9,hcp];simp
   ·rw[av a3,cC b1]
   ·rw[j9,hcp];exact b2
  ·have n1:c[j].length≠0:=fun e=>hb (.inl e)
   have n2 : ¬ 3<c[j].length:=fun e=>hb (.inr (.inl e))
   have n3:c[j].length=c[0].length:=Classical.byContradiction fun e=>hb (.inr (.inr e))
   obtain⟨fr3,fr4,b1,b2,b3,b4,b5,b6⟩:=agI L run k fr2 c j c[j] hc n1 n2 n3 a4 a5
   obtain⟨fr5,d1,d2,d3⟩:=Fm L run k c j c[j] hFp.1 (fun s hs=>g s (hFp.2 s hs)) c[j].length 0 fr4 (by omega) b3 b4 b5 b6
   rw[drop_zero] at d1 d2 d3
   have hcp:rQ (hdL c) c[j]=bif c[j].all (fun s=>pB (IsV s)) then 0 else 1:=by unfold rQ;rw[hh,if_neg hb]
   cases hv:c[j].all (fun s=>pB (IsV s)) with
   | false =>
    rw[hv] at d1 hcp
    have d4:=d3 hv
    refine .inr ⟨fr5,?_,run_ret ?_,?_⟩
    ·rw[j9,hcp];simp
    ·rw[av a3,av b1,av b2]
     exact df (ca d1 (by omega))
    ·rw[j9,hcp];exact d4
   | true =>
    rw[hv] at d1 hcp
    have d4:=d2 hv
    obtain⟨fr6,e1,e2⟩:=aiT L run k fr5 c j (by omega) d4
    have hgo:af (CC L) run k ckO ⟨fr,[],[]⟩=some (.normal,⟨fr6,[],[]⟩):=by
     rw[WN,av a1,av a2]
     have:af (CC L) run k (.seq WR (.seq yY (.seq WQ (.block 2 (.loop ckI))))) ⟨fr1,[],[]⟩=some (.normal,⟨fr5,[],[]⟩):=by
      rw[av a3,av b1,av b2]
      exact bN (ca d1 (by omega))
     rw[av (dH this)]
     exact e1
    have hce:j9 (hdL c) (c[j]::c.drop (j+1))=j9 (hdL c) (c.drop (j+1)):=by rw[j9,hcp];rfl
    rw[hce,ct hgo]
    exact Fl L run k hk c hF g n (j+1) fr6 (by omega) e2
def WM:Code:=seq1 (seq1 (ah 2 ckC))
theorem agD:ah 2 ckC = .seq (.seq WM (.block 0 (.loop ckO))) (ah 3 ckC):=rfl
theorem acF(c:List (List ByteArray))(h:64<c.length):∃ st,af (CC L) run k ckC ⟨entry 44 [cE c],[],[]⟩=some (.ret,st)∧aU TT st.fr st.hp f80.results.toList=some [iv 3]:=by
 obtain⟨e1,e2⟩:=cW 43 (cE c)
 generalize entry 44 [cE c]=fr0 at *
 have hl:=gD c
 generalize c.length=m at *
 have h2:((m:Int) > 64)=True:=by simp;omega
 have h3:((64:Int)<m)=True:=by simp;omega
 simp[f80,e1,e2,hl,uCl,h2,aU]
theorem agF (L:Lst)(run:ar)(k:Nat)(c:List (List ByteArray))(h : ¬ 64<c.length):∃ fr fr',aX (CC L) run k 2 ckC ⟨entry 44 [cE c],[],[]⟩=some ⟨fr,[],[]⟩∧af (CC L) run k WM ⟨fr,[],[]⟩=some (.normal,⟨fr',[],[]⟩)∧CF fr' c 0:=by
 obtain⟨e1,e2⟩:=cW 43 (cE c)
 generalize entry 44 [cE c]=fr0 at *
 have hl:=gD c
 have h2:((c.length:Int) > 64)=False:=by simp;omega
 have h3:((64:Int)<c.length)=False:=by simp;omega
 obtain⟨fr,a1,a2,a3⟩:∃ fr,aX (CC L) run k 2 ckC ⟨fr0,[],[]⟩=some ⟨fr,[],[]⟩∧fr.length=44∧nth fr 0=cE c:=by
  simp[f80,aX,e1,e2,hl,uCl,h2]
 refine⟨fr,?_⟩
 rw[a1]
 simp[CF,WM,ah,f80,a2,a3,hl,uCl]
theorem acE(h0:fr.length=44):∃ st,af (CC L) run k (ah 3 ckC) ⟨fr,[],[]⟩=some (.ret,st)∧aU TT st.fr st.hp f80.results.toList=some [iv 0]:=by
 simp[ah,f80,h0,aU]
theorem agE(n:Nat)(h:nth fr 2=iv n):aU TT fr [] f80.results.toList=some [iv n]:=by
 simp[f80,aU,h]
def IQ:List PV→Option (List PV):=ctr (fun c=>[cE c]) Fit fun c=>[iv (chk c)]
theorem acG(hk:200≤k)(c:List (List ByteArray))(hF:Fit c)(g:∀ s:ByteArray,(bys s).length≤100000→au L run 77 [.sc (.string s)] (.sc (.bool (pB (IsV s))))) :
  ∃ st,af (CC L) run k ckC ⟨entry 44 [cE c],[],[]⟩=some (.ret,st)∧aU TT st.fr st.hp f80.results.toList=some [iv (chk c)]:=by
 unfold chk
 by_cases h:64<c.length
 ·rw[if_pos h];exact acF L run k c h
 ·rw[if_neg h]
  obtain⟨fr,fr1,a1,a2,a3⟩:=agF L run k c h
  rw[aO 2 a1,agD]
  have hl:=Fl L run k hk c hF g c.length 0 fr1 (by omega) a3
  rw[drop_zero] at hl
  rcases hl with ⟨fr2,h0,b1,b2⟩| ⟨fr3,b0,b1,b2⟩
  ·have:af (CC L) run k (.seq WM (.block 0 (.loop ckO))) ⟨fr,[],[]⟩=some (.normal,⟨fr2,[],[]⟩):=by
    rw[av a2];exact bN (ca b1 (by have:=hF.1;omega))
   rw[av this,h0]
   exact acE L run k fr2 b2
  ·have:af (CC L) run k (.seq WM (.block 0 (.loop ckO))) ⟨fr,[],[]⟩=some (.ret,⟨fr3,[],[]⟩):=by
    rw[av a2];exact df (ca b1 (by have:=hF.1;omega))
   rw[cC this]
   exact⟨_,rfl,agE fr3 _ b2⟩
theorem y9:base.F.get 22=some f22:=by kernel_rfl
theorem Db:base.shared 22=false:=by kernel_rfl
def rkC:Code:=f22.body.getD .skip
def rkO:Code:=(aC rkC).getD .skip
def rkI:Code:=(aC rkO).getD .skip
def RF (fr:List PV)(c:List (List ByteArray))(j:Nat):Prop:=fr.length=58∧nth fr 0=cE c∧nth fr 3=iv j
theorem Zn(c:List (List ByteArray))(j:Nat)(hj:j<c.length)(h:RF fr c j)(h4:nth fr 4=iv c[j].length) :
  ∃ fr',af (CC L) run k rkI ⟨fr,[],[]⟩=some (.exit 2,⟨fr',[],[]⟩)∧RF fr' c j:=by
 obtain⟨h0,h1,h3⟩:=h
 obtain⟨r,x1,x2⟩:=gi uCl c j hj
 have hl:=fY c[j]
 generalize c[j]=p at *
 generalize p.length=m at *
 simp only[iv] at h3 h4
 simp[RF,rkI,rkO,rkC,f22,h0,h1,h3,h4,x1,x2,hl]
theorem M7(c:List (List ByteArray))(j:Nat)(hj:j<c.length)(i:Nat)(hi:i<c[j].length)(h9:c[j].length≤100)(v:Bool)(g:au L run 23 [.sc (.string c[j][i])] (.sc (.bool v)))(h:RF fr c j)(h4:nth fr 4=iv i) :
  ∃ fr',af (CC L) run k rkI ⟨fr,[],[]⟩=some (bif v then .normal else .ret,⟨fr',[],[]⟩)∧(v=true→RF fr' c j∧nth fr' 4=iv (i+1))∧(v=false→nth fr' 2=iv 1):=by
 obtain⟨h0,h1,h3⟩:=h
 obtain⟨r,x1,x2⟩:=gi uCl c j hj
 obtain⟨r',y1,y2⟩:=EJ uPt c[j] i hi
 have hl:=fY c[j]
 have hw:=bH i (by omega)
 unfold au at g
 generalize c[j][i]=s at *
 generalize c[j]=p at *
 simp only[iv] at h3 h4
 cases v <;> simp[RF,rkI,rkO,rkC,f22,aL,unP,and_assoc,h0,h1,h3,h4,x1,x2,y1,y2,hl,hi,g,hw,uM,iQ]
theorem Dr (L:Lst)(run:ar)(k:Nat)(c:List (List ByteArray))(j:Nat)(hj:j<c.length)(h9:c[j].length≤100)(g:∀ s ∈ c[j],au L run 23 [.sc (.string s)] (.sc (.bool (pB (IsV s))))):∀ (n i:Nat) (fr:List PV),i+n=c[j].length→RF fr c j→nth fr 4=iv i →
  ∃ fr',cu (af (CC L) run k rkI) (n+1) ⟨fr,[],[]⟩=some (bif (c[j].drop i).all (fun s=>pB (IsV s)) then .exit 2 else .ret,⟨fr',[],[]⟩)∧((c[j].drop i).all (fun s=>pB (IsV s))=true→RF fr' c j)∧((c[j].drop i).all (fun s=>pB (IsV s))=false→nth fr' 2=iv 1)
 | 0,i,fr,hin,h,h4=>by
  have e:i=c[j].length:=by omega
  subst e
  obtain⟨fr',q1,q2⟩:=Zn L run k fr c j hj h h4
  rw[drop_length]
  exact⟨fr',bD q1,fun _=>q2,nofun⟩
 | n+1,i,fr,hin,h,h4=>by
  have hi:i<c[j].length:=by omega
  obtain⟨fr1,q1,q2,q3⟩:=M7 L run k fr c j hj i hi h9 _ (g _ (getElem_mem hi)) h h4
  rw[drop_eq_getElem_cons hi,all_cons]
  cases hv:pB (IsV c[j][i]) with
  | false =>
   rw[hv] at q1 q3
   exact⟨fr1,eM q1,nofun,fun _=>q3 rfl⟩
  | true =>
   rw[hv] at q1 q2
   obtain⟨a1,a2⟩:=q2 rfl
   obtain⟨fr',s1,s2⟩:=Dr L run k c j hj h9 g n (i+1) fr1 (by omega) a1 a2
   rw[Bool.true_and]
   exact⟨fr',by rw[ct q1];exact s1,s2⟩
def aem:Code:=seq1 rkO
def rkB:Code:=blk (seq1 (cw rkO))
def yM:Code:=seq1 rkB
def R1:Code:=seq1 (cw rkB)
def ael:Code:=cw (cw rkO)
theorem R0:rkO = .seq aem (.seq (.block 1 (.seq yM (.seq R1 (.block 2 (.loop rkI))))) ael):=rfl
theorem Zl(c:List (List ByteArray))(h:RF fr c c.length) :
  ∃ fr',af (CC L) run k rkO ⟨fr,[],[]⟩=some (.exit 0,⟨fr',[],[]⟩)∧fr'.length=58:=by
 obtain⟨h0,h1,h3⟩:=h
 simp only[iv] at h3
 simp[rkO,rkC,f22,gD,h0,h1,h3,uCl]
theorem ah1(c:List (List ByteArray))(j:Nat)(hj:j<c.length)(h:RF fr c j) :
  ∃ fr1,af (CC L) run k aem ⟨fr,[],[]⟩=some (.normal,⟨fr1,[],[]⟩)∧RF fr1 c j:=by
 obtain⟨h0,h1,h3⟩:=h
 simp only[iv] at h3
 simp[RF,aem,rkO,rkC,f22,gD,h0,h1,h3,uCl,hj]
theorem lt1 (m:Nat):((m:Int)<1)=(m=0):=by apply propext;omega
set_option maxHeartbeats 1000000 in
theorem Zo(c:List (List ByteArray))(j:Nat)(hj:j<c.length)(hc:0<c.length)(hb:c[j].length=0∨3<c[j].length∨c[j].length≠c[0].length)(h:RF fr c j) :
  ∃ fr',af (CC L) run k yM ⟨fr,[],[]⟩=some (.ret,⟨fr',[],[]⟩)∧nth fr' 2=iv 10:=by
 obtain⟨h0,h1,h3⟩:=h
 obtain⟨r,x1,x2⟩:=gi uCl c 0 hc
 obtain⟨r',y1,y2⟩:=gi uCl c j hj
 rw[show (((0:Nat):Int))=(0:Int) from rfl] at x1
 have hl:=fY c[j]
 have hl2:=fY c[0]
 generalize c[0]=q at *
 generalize c[j]=p at *
 generalize p.length=m at *
 generalize q.length=m0 at *
 simp only[iv] at h3
 by_cases b1:m=0
 ·subst b1
  simp[yM,rkB,rkO,rkC,f22,h0,h1,h3,hl,y1,y2,undef,number,FP.free]
 ·by_cases b2:3<m
  ·simp[yM,rkB,rkO,rkC,f22,h0,h1,h3,hl,y1,y2,undef,b1,b2,gt3,lt1,number,FP.free]
  ·have b3:m≠m0:=by rcases hb with hb | hb | hb <;> first | exact absurd hb b1 | exact absurd hb b2 | exact hb
   simp[yM,rkB,rkO,rkC,f22,FC,h0,h1,h3,hl,hl2,x1,x2,y1,y2,b1,b2,b3,gt3,lt1,number,FP.free]
set_option maxHeartbeats 1000000 in
theorem aen(c:List (List ByteArray))(j:Nat)(hj:j<c.length)(hc:0<c.length)(b1:c[j].length≠0)(b2 : ¬ 3<c[j].length)(b3:c[j].length=c[0].length)(h:RF fr c j) :
  ∃ fr1 fr',af (CC L) run k yM ⟨fr,[],[]⟩=some (.normal,⟨fr1,[],[]⟩)∧af (CC L) run k R1 ⟨fr1,[],[]⟩=some (.normal,⟨fr',[],[]⟩)∧RF fr' c j∧nth fr' 4=iv 0:=by
 obtain⟨h0,h1,h3⟩:=h
 obtain⟨r,x1,x2⟩:=gi uCl c 0 hc
 obtain⟨r',y1,y2⟩:=gi uCl c j hj
 rw[show (((0:Nat):Int))=(0:Int) from rfl] at x1
 have hl:=fY c[j]
 have hl2:=fY c[0]
 rw[← b3] at hl2
 clear b3
 generalize c[0]=q at *
 generalize c[j]=p at *
 generalize p.length=m at *
 simp only[iv] at h3
 obtain⟨fr1,g1,g2,g3,g4⟩:∃ fr1,af (CC L) run k yM ⟨fr,[],[]⟩=some (.normal,⟨fr1,[],[]⟩)∧fr1.length=58∧nth fr1 0=cE c∧nth fr1 3 = .sc (.int .i64 (j:Int)):=by
  simp[yM,rkB,rkO,rkC,f22,h0,h1,h3,hl,hl2,x1,x2,y1,y2,b1,b2,gt3,lt1,number,FP.free]
 refine⟨fr1,?_⟩
 rw[g1]
 simp[RF,R1,rkB,rkO,rkC,f22,and_assoc,g2,g3,g4]
theorem ah0(c:List (List ByteArray))(j:Nat)(hj:j<1000)(h:RF fr c j) :
  ∃ fr',af (CC L) run k ael ⟨fr,[],[]⟩=some (.normal,⟨fr',[],[]⟩)∧RF fr' c (j+1):=by
 obtain⟨h0,h1,h3⟩:=h
 have hw:=bH j (by omega)
 simp only[iv] at h3
 simp[RF,ael,rkO,rkC,f22,h0,h1,h3,hw]
theorem Dq (L:Lst)(run:ar)(k:Nat)(hk:200≤k)(c:List (List ByteArray))(hF:Fit c)(g:∀ s:ByteArray,(bys s).length≤100000→au L run 23 [.sc (.string s)] (.sc (.bool (pB (IsV s))))):∀ (n j:Nat) (fr:List PV),j+n=c.length→RF fr c j →
  (∃ fr',j9 (hdL c) (c.drop j)=0∧cu (af (CC L) run k rkO) (n+1) ⟨fr,[],[]⟩=some (.exit 0,⟨fr',[],[]⟩)∧fr'.length=58)∨∃ fr',j9 (hdL c) (c.drop j)≠0∧cu (af (CC L) run k rkO) (n+1) ⟨fr,[],[]⟩=some (.ret,⟨fr',[],[]⟩)∧nth fr' 2=iv (j9 (hdL c) (c.drop j))
 | 0,j,fr,hjn,h=>by
  have e:j=c.length:=by omega
  subst e
  obtain⟨fr',q1,q2⟩:=Zl L run k fr c h
  rw[drop_length]
  exact .inl ⟨fr',rfl,bD q1,q2⟩
 | n+1,j,fr,hjn,h=>by
  have hj:j<c.length:=by omega
  have hc:0<c.length:=by omega
  have hh:hdL c=c[0].length:=by
   cases c with
   | nil=>simp at hc
   | cons p r=>rfl
  obtain⟨fr1,a1,a4⟩:=ah1 L run k fr c j hj h
  have hFp:=hF.2 c[j] (getElem_mem hj)
  have hFc:=hF.1
  rw[drop_eq_getElem_cons hj]
  have run_ret:∀ {fr'},af (CC L) run k (.seq yM (.seq R1 (.block 2 (.loop rkI)))) ⟨fr1,[],[]⟩=some (.ret,⟨fr',[],[]⟩)→cu (af (CC L) run k rkO) (n+1+1) ⟨fr,[],[]⟩=some (.ret,⟨fr',[],[]⟩):=by
   intro fr' hr
   refine eM ?_
   rw[R0,av a1]
   exact cC (kE hr)
  by_cases hb:c[j].length=0∨3<c[j].length∨c[j].length≠c[0].length
  ·obtain⟨fr',b1,b2⟩:=Zo L run k fr1 c j hj hc hb a4
   have hcp:rQ (hdL c) c[j]=10:=by unfold rQ;rw[hh,if_pos hb]
   refine .inr ⟨fr',?_,run_ret ?_,?_⟩
   ·rw[j9,hcp];simp
   ·rw[cC b1]
   ·rw[j9,hcp];exact b2
  ·have n1:c[j].length≠0:=fun e=>hb (.inl e)
   have n2 : ¬ 3<c[j].length:=fun e=>hb (.inr (.inl e))
   have n3:c[j].length=c[0].length:=Classical.byContradiction fun e=>hb (.inr (.inr e))
   obtain⟨fr3,fr4,b1,b2,b3,b6⟩:=aen L run k fr1 c j hj hc n1 n2 n3 a4
   obtain⟨fr5,d1,d2,d3⟩:=Dr L run k c j hj hFp.1 (fun s hs=>g s (hFp.2 s hs)) c[j].length 0 fr4 (by omega) b3 b6
   rw[drop_zero] at d1 d2 d3
   have hcp:rQ (hdL c) c[j]=bif c[j].all (fun s=>pB (IsV s)) then 0 else 1:=by unfold rQ;rw[hh,if_neg hb]
   cases hv:c[j].all (fun s=>pB (IsV s)) with
   | false =>
    rw[hv] at d1 hcp
    have d4:=d3 hv
    refine .inr ⟨fr5,?_,run_ret ?_,?_⟩
    ·rw[j9,hcp];simp
    ·rw[av b1,av b2]
     exact df (ca d1 (by omega))
    ·rw[j9,hcp];exact d4
   | true =>
    rw[hv] at d1 hcp
    have d4:=d2 hv
    obtain⟨fr6,e1,e2⟩:=ah0 L run k fr5 c j (by omega) d4
    have hgo:af (CC L) run k rkO ⟨fr,[],[]⟩=some (.normal,⟨fr6,[],[]⟩):=by
     rw[R0,av a1]
     have:af (CC L) run k (.seq yM (.seq R1 (.block 2 (.loop rkI)))) ⟨fr1,[],[]⟩=some (.normal,⟨fr5,[],[]⟩):=by
      rw[av b1,av b2]
      exact bN (ca d1 (by omega))
     rw[av (dH this)]
     exact e1
    have hce:j9 (hdL c) (c[j]::c.drop (j+1))=j9 (hdL c) (c.drop (j+1)):=by rw[j9,hcp];rfl
    rw[hce,ct hgo]
    exact Dq L run k hk c hF g n (j+1) fr6 (by omega) e2
def RZ:Code:=seq1 (seq1 (ah 2 rkC))
theorem aeg:ah 2 rkC = .seq (.seq RZ (.block 0 (.loop rkO))) (ah 3 rkC):=rfl
theorem Zi(c:List (List ByteArray))(h:64<c.length):∃ st,af (CC L) run k rkC ⟨entry 58 [cE c],[],[]⟩=some (.ret,st)∧aU TT st.fr st.hp f22.results.toList=some [iv 3]:=by
 obtain⟨e1,e2⟩:=cW 57 (cE c)
 generalize entry 58 [cE c]=fr0 at *
 have hl:=gD c
 generalize c.length=m at *
 have h2:((m:Int) > 64)=True:=by simp;omega
 have h3:((64:Int)<m)=True:=by simp;omega
 simp[rkC,f22,e1,e2,hl,uCl,h2,aU]
theorem aei (L:Lst)(run:ar)(k:Nat)(c:List (List ByteArray))(h : ¬ 64<c.length):∃ fr fr',aX (CC L) run k 2 rkC ⟨entry 58 [cE c],[],[]⟩=some ⟨fr,[],[]⟩∧af (CC L) run k RZ ⟨fr,[],[]⟩=some (.normal,⟨fr',[],[]⟩)∧RF fr' c 0:=by
 obtain⟨e1,e2⟩:=cW 57 (cE c)
 generalize entry 58 [cE c]=fr0 at *
 have hl:=gD c
 have h2:((c.length:Int) > 64)=False:=by simp;omega
 have h3:((64:Int)<c.length)=False:=by simp;omega
 obtain⟨fr,a1,a2,a3⟩:∃ fr,aX (CC L) run k 2 rkC ⟨fr0,[],[]⟩=some ⟨fr,[],[]⟩∧fr.length=58∧nth fr 0=cE c:=by
  simp[rkC,f22,aX,e1,e2,hl,uCl,h2]
 refine⟨fr,?_⟩
 rw[a1]
 simp[RF,RZ,ah,rkC,f22,a2,a3]
theorem Zh(h0:fr.length=58):∃ st,af (CC L) run k (ah 3 rkC) ⟨fr,[],[]⟩=some (.ret,st)∧aU TT st.fr st.hp f22.results.toList=some [iv 0]:=by
 simp[rkC,ah,f22,h0,aU]
theorem aeh(n:Nat)(h:nth fr 2=iv n):aU TT fr [] f22.results.toList=some [iv n]:=by
 simp[f22,aU,h]
theorem Zj(hk:200≤k)(c:List (List ByteArray))(hF:Fit c)(g:∀ s:ByteArray,(bys s).length≤100000→au L run 23 [.sc (.string s)] (.sc (.bool (pB (IsV s))))) :
  ∃ st,af (CC L) run k rkC ⟨entry 58 [cE c],[],[]⟩=some (.ret,st)∧aU TT st.fr st.hp f22.results.toList=some [iv (chk c)]:=by
 unfold chk
 by_cases h:64<c.length
 ·rw[if_pos h];exact Zi L run k c h
 ·rw[if_neg h]
  obtain⟨fr,fr1,a1,a2,a3⟩:=aei L run k c h
  rw[aO 2 a1,aeg]
  have hl:=Dq L run k hk c hF g c.length 0 fr1 (by omega) a3
  rw[drop_zero] at hl
  rcases hl with ⟨fr2,h0,b1,b2⟩| ⟨fr3,b0,b1,b2⟩
  ·have:af (CC L) run k (.seq RZ (.block 0 (.loop rkO))) ⟨fr,[],[]⟩=some (.normal,⟨fr2,[],[]⟩):=by
    rw[av a2];exact bN (ca b1 (by have:=hF.1;omega))
   rw[av this,h0]
   exact Zh L run k fr2 b2
  ·have:af (CC L) run k (.seq RZ (.block 0 (.loop rkO))) ⟨fr,[],[]⟩=some (.ret,⟨fr3,[],[]⟩):=by
    rw[av a2];exact df (ca b1 (by have:=hF.1;omega))
   rw[cC this]
   exact⟨_,rfl,aeh fr3 _ b2⟩
def LQ5:Lst:=[(77,Gf),(23,RQ)]
theorem XI:dw base.P LQ5:=⟨Ge,MP,trivial⟩
theorem rX {c d:List (List ByteArray)}(h:[cE c]=[cE d]):c=d:=Ca (by simpa using h)
theorem WS:Ab.Spec base.P 80 IQ:=Ab.Spec.bM (C:=CC LQ5) (cP XI) fun args rs h=>by
 obtain⟨c,hF,rfl,rfl⟩:=cN h
 obtain⟨st,x1,x2⟩:=acG LQ5 (runK (CC LQ5) 200) 200 (by omega) c hF (fun s h9=>acW rfl _ s h9)
 exact⟨201,_,_,_,_,_,aP F9 rfl x1 x2,rfl,Wk.refl rfl,trivial⟩
theorem zN:Ab.Spec base.P 22 IQ:=Ab.Spec.bM (C:=CC LQ5) (cP XI) fun args rs h=>by
 obtain⟨c,hF,rfl,rfl⟩:=cN h
 obtain⟨st,x1,x2⟩:=Zj LQ5 (runK (CC LQ5) 200) 200 (by omega) c hF (fun s h9=>ahf rfl _ s h9)
 exact⟨201,_,_,_,_,_,aP y9 rfl x1 x2,rfl,Wk.refl rfl,trivial⟩
theorem nE(c:List (List ByteArray)):bq (snap hp bn) [cE c]=some ([cE c],[]):=rfl
theorem ma (c:List (List ByteArray)):aJ [cE c]=[cE c]:=by simp only[aJ,fV]
theorem adB {L:Lst}(hL:bu L 80=fun a=>IQ (aJ a))(run:ar)(c:List (List ByteArray))(hF:Fit c):au L run 80 [cE c] (iv (chk c)) :=
 fH MM (e:=fun c=>[cE c]) (f:=fun c=>[iv (chk c)]) hL (fun x y _ _ h=>by rw[rX h]) run c hF (nE · c) (ma c)
theorem XQ {L:Lst}(hL:bu L 22=fun a=>IQ (aJ a))(run:ar)(c:List (List ByteArray))(hF:Fit c):au L run 22 [cE c] (iv (chk c)) :=
 fH Db (e:=fun c=>[cE c]) (f:=fun c=>[iv (chk c)]) hL (fun x y _ _ h=>by rw[rX h]) run c hF (nE · c) (ma c)
def rc:Option Rat→List PV
 | none=>[.sc (.bool (bA 0)),aQ (aK (Int.natAbs 0)),.sc (.bool (bA 0)),aQ (aK (Int.natAbs 0))]
 | some x=>[.sc (.bool (bA x.num)),aQ (aK x.num.natAbs),.sc (.bool (bA x.den)),aQ (aK (x.den:Int).natAbs)]
theorem wG (u:Option Rat):rv u = .agg (rc u):=by cases u <;> rfl
def rz:List PV:=[.sc (.bool false),.sc (.slice none 0 0),.sc (.bool false),.sc (.slice none 0 0)]
theorem wT (u:Option Rat):(rc u).length=4:=by cases u <;> rfl
theorem pF:Ec 4 rc where
 len:=wT
 okc:=fun u=>by cases u <;> rfl
 can:=fun u=>by
  have h:=rU u
  rw[wG,canon] at h
  simpa using h
 idf:=fun u=>by cases u <;> rfl
 sn:=fun hp d u=>by cases u <;> rfl
def rcs (x:Rat):List PV:=rc (some x)
theorem cD:Ec 4 rcs where
 len:=fun x=>pF.len _
 okc:=fun x=>pF.okc _
 can:=fun x=>pF.can _
 idf:=fun x=>pF.idf _
 sn:=fun hp d x=>pF.sn hp d _
theorem ji (x:Rat):rv (some x) = .agg (rcs x):=rfl
def Rp (p:PV)(u:Option Rat):Prop:=p=rv u∨(u=none∧p = .agg rz)
def Rc (cs:List PV)(u:Option Rat):Prop:=cs=rc u∨(u=none∧cs=rz)
theorem Rc.p {cs:List PV}{u:Option Rat}(h:Rc cs u):Rp (.agg cs) u:=by
 rcases h with rfl | ⟨rfl,rfl⟩
 ·exact .inl (wG u).symm
 ·exact .inr ⟨rfl,rfl⟩
theorem Rc.len {cs:List PV}{u:Option Rat}(h:Rc cs u):cs.length=4:=by
 rcases h with rfl | ⟨rfl,rfl⟩
 ·exact wT u
 ·rfl
theorem Rp.snap {p:PV}{u:Option Rat}(h:Rp p u)(hp:List Blk)(d:Nat):Ab.snap hp (d+2) p=some (p,[]):=by
 rcases h with rfl | ⟨rfl,rfl⟩
 ·exact YJ hp d u
 ·rfl
theorem Rp.canon {p:PV}{u:Option Rat}(h:Rp p u):Ab.canon p=rv u:=by
 rcases h with rfl | ⟨rfl,rfl⟩
 ·exact rU u
 ·rfl
theorem Rp.wk {p:PV}{u:Option Rat}(h:Rp p u):Wk p (rv u):=by
 rcases h with rfl | ⟨rfl,rfl⟩
 ·exact Wk.refl (by cases u <;> rfl)
 ·exact Wk.agg ⟨Wk.refl rfl,Wk.nil false,Wk.refl rfl,Wk.nil false,trivial⟩
theorem Rp.JX {p:PV}{u:Option Rat}(h:Rp p u)(hp:List Blk):bq (Ab.snap hp bn) [p]=some ([p],[]):=by
 have:=h.snap hp 10
 show bq (Ab.snap hp 12) [p]=_
 simp only[bq,this];rfl
theorem Rp.ada {p q:PV}{u v:Option Rat}(h:Rp p u)(h':Rp q v)(hp:List Blk):bq (Ab.snap hp bn) [p,q]=some ([p,q],[]):=by
 have h1:=h.snap hp 10
 have h2:=h'.snap hp 10
 show bq (Ab.snap hp 12) [p,q]=_
 simp only[bq,h1,h2];rfl
theorem jO {L:Lst}{g:Nat}{f:List PV→Option (List PV)}(hs:base.shared g=false)(ho:bu L g=fun a=>f (aJ a))(run:ar)(dr:Bool)(hp:List Blk)(args args' rs:List PV)
  (h1:bq (snap hp bn) args=some (args,[])) (h2:aJ args=args') (h3:f args'=some rs):bX (CC L) run dr hp g args=some (jk rs,hp,⟨[],[],false,false⟩):=by
 have h4:(CC L).orc g args=some rs:=by
  show bu L g args=_
  rw[ho];show f (aJ args)=_;rw[h2,h3]
 by_cases h:rs.all eE=true
 ·exact kl hs h1 h4 h
 ·exact eJ hs h1 h4 (by simpa using h)
theorem XL {L:Lst}(hL:bu L 87=fun a=>jb (aJ a))(run:ar){p q:PV}{u v:Option Rat}(hp:Rp p u)(hq:Rp q v){j k:Nat}(hu:Rb j (vv u))(hv:Rb k (vv v))(h:j+k≤1000000):au L run 87 [p,q] (rv (some (vv u+vv v))):=fun dr hh =>
 jO J4 hL run dr hh _ _ [rv (some (vv u+vv v))] (hp.ada hq hh) (by simp only[aJ,hp.canon,hq.canon]) (Dv hu hv h)
theorem Jh {L:Lst}(hL:bu L 56=fun a=>kS (aJ a))(run:ar){p q:PV}{u v:Option Rat}(hp:Rp p u)(hq:Rp q v){j k:Nat}(hu:Rb j (vv u))(hv:Rb k (vv v))(h:j+k≤1000000):au L run 56 [p,q] (rv (some (vv u*vv v))):=fun dr hh =>
 jO Y2 hL run dr hh _ _ [rv (some (vv u*vv v))] (hp.ada hq hh) (by simp only[aJ,hp.canon,hq.canon]) (RY hu hv h)
theorem ahb {L:Lst}(hL:bu L 106=fun a=>kr (aJ a))(run:ar){p:PV}{u:Option Rat}(hp:Rp p u){j:Nat}(hu:Rb j (vv u))(h:j≤1000000):au L run 106 [p] (rv (G4 u)):=fun dr hh =>
 jO J3 hL run dr hh _ _ [rv (G4 u)] (hp.JX hh) (by simp only[aJ,hp.canon]) (Dp hu h)
theorem Cg {L:Lst}(hL:bu L 49=fun a=>iA (aJ a))(run:ar){p:PV}{u:Option Rat}(hp:Rp p u){j:Nat}(hu:Rb j (vv u))(h:j≤1000000):au L run 49 [p] (Ab.bz (gp (vv u))):=fun dr hh =>
 jO Df hL run dr hh _ _ [Ab.bz (gp (vv u))] (hp.JX hh) (by simp only[aJ,hp.canon]) (zH hu h)
def dp (x:Bool)(X:List Rat):PV:=.imm X.length x (X.flatMap rcs)
def vR (X:List Rat):PV:=dp false X
theorem AY (x:Bool)(X:List Rat):canon (dp x X)=vR X:=cD.WZ _ x X rfl
theorem uY:und TT 84=some (.slice 72):=by kernel_rfl
theorem bR:ie TT 72=some 64:=by kernel_rfl
theorem zRz:eK TT 72=some rz:=by kernel_rfl
theorem pM:dt TT 84=some 1:=by kernel_rfl
theorem Xy:fZ TT 84=some false:=by kernel_rfl
theorem HX (x:Bool)(X:List Rat):dk (dp x X)=true:=rfl
theorem tc (id n i:Nat)(x:Bool)(hi:i<n):bg TT 84 (.own id 4 0 n x) (.sc (.int .i64 (i:Int)))=some (.ptr id (i*4)):=by
 simp only[bg,uY,bm,sR,hi,and_self,if_true,Nat.zero_add]
theorem ac9 (cs rest:List PV)(h:cs.length=4):bF (cs++rest) 4=some cs:=by
 rw[dh (by simp;omega),← h,take_left]
theorem od (x:Bool)(X:List Rat)(i:Nat)(hi:i<X.length):∃ r,bg TT 84 (dp x X) (.sc (.int .i64 (i:Int)))=some (.iptr r)∧bF r 4=some (rcs X[i]):=by
 refine⟨br (X.flatMap rcs) (i*4),?_,?_⟩
 ·unfold dp
  simp only[bg,uY,bm,sR,hi,if_true]
 ·rw[lh cD.toEl X i hi,ac9 _ _ (cD.len _)]
theorem sX (A:List PV)(m:Nat)(cs:List PV)(h:cs.length=4)(i:Nat)(hi:A.length=i*4):cq (A++rep (m+1) rz) (i*4) cs=some ((A++cs)++rep m rz):=by
 have:=Ao A (rep (m+1) rz) cs (cs++rep m rz) 0 (xD rz cs (rep m rz) (by rw[h];rfl))
 rw[show A.length+0=i*4 by omega] at this
 rw[this,append_assoc]
theorem iH (X:List Rat):(X.flatMap rcs).length=X.length*4:=cD.length X
theorem Ju:base.F.get 59=some f59:=by kernel_rfl
theorem Q7:base.shared 59=false:=by kernel_rfl
def prC:Code:=f59.body.getD .skip
def prB:Code:=(aC prC).getD .skip
def PF (fr:List PV)(P:List ByteArray)(i:Nat):Prop:=fr.length=26∧nth fr 3 = .own 0 4 0 P.length true∧nth fr 9=pE P∧nth fr 10=iv P.length∧nth fr 11=iv i
theorem aeB(P:List ByteArray)(h:PF fr P P.length) :
  ∃ fr',af (CC L) run k prB ⟨fr,hp,wr⟩=some (.exit 0,⟨fr',hp,wr⟩)∧fr'.length=26∧nth fr' 3 = .own 0 4 0 P.length true:=by
 obtain⟨h0,h3,h9,h10,h11⟩:=h
 simp only[iv] at h10 h11
 simp[prB,prC,f59,h0,h3,h10,h11]
set_option maxHeartbeats 1000000 in
theorem Tp(P:List ByteArray)(i m:Nat)(A:List PV)(x:Rat)(hi:i<P.length)(h9':P.length≤1000)(hA:A.length=i*4)(g:au L run 108 [.sc (.string P[i])] (.tup [rv (some x),.sc (.bool true)]))(h:PF fr P i) :
  ∃ fr' wr',af (CC L) run k prB ⟨fr,[⟨.live,A++rep (m+1) rz⟩],wr⟩=some (.normal,⟨fr',[⟨.live,(A++rcs x)++rep m rz⟩],wr'⟩)∧PF fr' P (i+1):=by
 obtain⟨h0,h3,h9,h10,h11⟩:=h
 obtain⟨r,x1,x2⟩:=EJ uPt P i hi
 have x3:=tc 0 P.length i true hi
 have ho:=sX A m (rcs x) (cD.len x) i hA
 have hw:=bH i (by omega)
 have hok:=cD.okc x
 have hlen:=cD.len x
 rw[ji] at g
 unfold au at g
 generalize P[i]=s at *
 generalize rcs x=cs at *
 generalize A++rep (m+1) rz=Z at *
 simp only[iv] at h10 h11
 simp[PF,prB,prC,f59,aL,and_assoc,bp,h0,h3,h9,h10,h11,hi,x1,x2,x3,g,ho,hok,hlen,hw,uM,iQ,sR,aY,bZ,bp]
theorem KC (L:Lst)(run:ar)(k:Nat)(X:List Rat)(h9:X.length≤1000)(g:∀ x ∈ X,au L run 108 [.sc (.string (qb x))] (.tup [rv (some x),.sc (.bool true)])):∀ (n i:Nat) (fr:List PV) (wr:List Nat),i+n=X.length→PF fr (X.map qb) i →
  ∃ fr' wr',cu (af (CC L) run k prB) (n+1) ⟨fr,[⟨.live,(X.take i).flatMap rcs++rep n rz⟩],wr⟩=some (.exit 0,⟨fr',[⟨.live,X.flatMap rcs⟩],wr'⟩)∧fr'.length=26∧nth fr' 3 = .own 0 4 0 X.length true
 | 0,i,fr,wr,hin,h=>by
  have e:i=(X.map qb).length:=by simpa using hin
  rw[e] at h
  obtain⟨fr',q1,q2,q3⟩:=aeB L run k fr [⟨.live,(X.take i).flatMap rcs++rep 0 rz⟩] wr (X.map qb) h
  have e2:(X.take i).flatMap rcs++rep 0 rz=X.flatMap rcs:=by
   rw[take_of_length_le (by omega)];simp[rep]
  rw[e2] at q1 ⊢
  exact⟨fr',wr,bD q1,q2,by rw[q3];simp⟩
 | n+1,i,fr,wr,hin,h=>by
  have hi:i<X.length:=by omega
  have hi':i<(X.map qb).length:=by simpa using hi
  have hg:=g X[i] (getElem_mem hi)
  obtain⟨fr1,wr1,q1,q2⟩:=Tp L run k fr wr (X.map qb) i n ((X.take i).flatMap rcs) X[i] hi' (by simpa using h9) (by rw[iH,length_take,Nat.min_eq_left (by omega)]) (by rw[getElem_map];exact hg) h
  obtain⟨fr',wr',s1,s2⟩:=KC L run k X h9 g n (i+1) fr1 wr1 (by omega) q2
  refine⟨fr',wr',?_,s2⟩
  rw[ct q1]
  have e:(X.take i).flatMap rcs++rcs X[i]=(X.take (i+1)).flatMap rcs:=by
   rw[take_succ_eq_append_getElem hi,flatMap_append];simp
  rw[e]
  exact s1
def Z2:Code:=seq1 (seq1 (ah 2 prC))
theorem aez:ah 2 prC = .seq (.seq Z2 (.block 0 (.loop prB))) (ah 3 prC):=rfl
theorem aeA (L:Lst)(run:ar)(k:Nat)(P:List ByteArray)(h9:P.length≤1000) :
  ∃ fr fr' wr,aX (CC L) run k 2 prC ⟨entry 26 [pE P],[],[]⟩=some ⟨fr,[⟨.live,rep P.length rz⟩],wr⟩∧af (CC L) run k Z2 ⟨fr,[⟨.live,rep P.length rz⟩],wr⟩=some (.normal,⟨fr',[⟨.live,rep P.length rz⟩],wr⟩)∧PF fr' P 0:=by
 obtain⟨e1,e2⟩:=cW 25 (pE P)
 generalize entry 26 [pE P]=fr0 at *
 have hm:P.length≤cS:=Nat.le_trans h9 (by decide)
 obtain⟨fr,wr,a1,a2,a3,a4⟩:∃ fr wr,aX (CC L) run k 2 prC ⟨fr0,[],[]⟩=some ⟨fr,[⟨.live,rep P.length rz⟩],wr⟩∧fr.length=26∧nth fr 0=pE P∧nth fr 3 = .own 0 4 0 P.length true:=by
  have hrz:rz.length=4:=rfl
  simp[prC,f59,aX,e1,e2,bm,and_assoc,fY,uY,sR,bR,zRz,hm,hrz,cg,aM]
 refine⟨fr,?_⟩
 simp only[a1]
 simp[PF,Z2,ah,prC,f59,a2,a3,a4,fY]
theorem Z1(p:PV)(h0:fr.length=26)(h3:nth fr 3=p):∃ st,af (CC L) run k (ah 3 prC) ⟨fr,hp,wr⟩=some (.ret,st)∧st.hp=hp∧aU TT st.fr st.hp f59.results.toList=some [p]:=by
 simp[prC,ah,f59,h0,h3,aU]
theorem JP(id:Nat)(x:Bool)(X:List Rat)(h:aY hp id=some ⟨.live,X.flatMap rcs⟩):bq (snap hp bn) [.own id 4 0 X.length x]=some ([dp x X],[id]):=by
 have ht:bF (br (X.flatMap rcs) 0) (X.length*4)=some (X.flatMap rcs):=by
  have:=si cD.toEl X []
  rw[append_nil] at this
  rw[cA,drop_zero,this]
 have h1:Ab.snap hp (11+1) (.own id 4 0 X.length x)=some (dp x X,[id]):=by
  rw[Ab.snap]
  simp only[h]
  rw[if_neg (by simp),ht]
  simp only[cD.sns hp 10 X]
  rfl
 show bq (snap hp 12) _=_
 simp only[bq,h1]
 rfl
def LR1:Lst:=[(108,rrF),(55,nJ),(56,kS),(87,jb),(106,kr),(49,iA),(110,EZ)]
theorem yz:dw base.P LR1:=⟨vw,oS,oU,oV,oT,jj,OQ,trivial⟩
def RbL (k:Nat)(X:List Rat):Prop:=∀ x ∈ X,Rb k x
def qL (X:List Rat):PV:=pE (X.map qb)
theorem BL {X Y:List Rat}(h:qL X=qL Y):X=Y:=by
 have h1:=HU h
 clear h
 induction X generalizing Y with
 | nil=>cases Y with
  | nil=>rfl
  | cons b Y=>simp at h1
 | cons a X ih=>cases Y with
  | nil=>simp at h1
  | cons b Y =>
   simp only[map_cons,List.cons.injEq] at h1
   rw[pR h1.1,ih h1.2]
def pU:List PV→Option (List PV):=ctr (fun X:List Rat=>[qL X]) (fun X=>RbL 1000 X∧X.length≤1000) fun X=>[dp true X]
theorem pS:Ab.Spec base.P 59 pU:=Ab.Spec.bM (C:=CC LR1) (cP yz) fun args rs h=>by
 obtain⟨X,⟨hb,h9⟩,rfl,rfl⟩:=cN h
 have hX:(X.map qb).length=X.length:=length_map _
 obtain⟨fr,fr1,wr,a1,a2,a3⟩:=aeA LR1 (runK (CC LR1) (X.length+1)) (X.length+1) (X.map qb) (by omega)
 obtain⟨fr2,wr2,b1,b2,b3⟩:=KC LR1 (runK (CC LR1) (X.length+1)) (X.length+1) X h9 (fun x hx=>ai7 rfl _ (hb x hx) (by omega)) X.length 0 fr1 wr (by omega) a3
 rw[hX] at a1 a2
 have hl:af (CC LR1) (runK (CC LR1) (X.length+1)) (X.length+1) (.seq Z2 (.block 0 (.loop prB))) ⟨fr,[⟨.live,rep X.length rz⟩],wr⟩=some (.normal,⟨fr2,[⟨.live,X.flatMap rcs⟩],wr2⟩):=by
  rw[av a2];exact bN b1
 obtain⟨st,c1,c2,c3⟩:=Z1 LR1 (runK (CC LR1) (X.length+1)) (X.length+1) fr2 [⟨.live,X.flatMap rcs⟩] wr2 _ b2 b3
 have hx:af (CC LR1) (runK (CC LR1) (X.length+1)) (X.length+1) prC ⟨entry 26 [pE (X.map qb)],[],[]⟩=some (.ret,st):=by
  rw[aO 2 a1,aez,av hl,c1]
 exact⟨_,_,_,_,[dp true X],[0],aP Ju rfl hx c3,by rw[c2];exact JP _ 0 true X rfl,Wk.refl rfl,trivial⟩
theorem pn {L:Lst}(hL:bu L 59=fun a=>pU (aJ a))(run:ar)(X:List Rat)(hb:RbL 1000 X)(h9:X.length≤1000):au L run 59 [qL X] (dp true X) :=
 fH Q7 (e:=fun X=>[qL X]) (f:=fun X=>[dp true X]) hL (fun x y _ _ h=>by rw[BL (X:=x) (Y:=y) (by simpa using h)]) run X ⟨hb,h9⟩ (fun _=>rfl) (by simp only[aJ,qL,Fs])
end Go.Proofs.YtjdmodeenbdfpaaGreat
end
