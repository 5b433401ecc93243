/- Contracts of fractions, clouds and predicates, part 25; each lemma states its conditions. -/
import Derived.Test.YtjdmodeenbdfpaaGreatW24
set_option linter.unusedSimpArgs false
set_option linter.unusedVariables false
noncomputable section
namespace Go.Proofs.YtjdmodeenbdfpaaGreat
open Go Go.Ab List Tryz
attribute [local simp] FzZ aA aC aF aG aH aX aZ aa ab ae af ah ai aj an ao aq au av bL bf bg iv partOf seq1
variable(L:Lst)(run:aw)(k:Nat)(fr:Ψ)(hp:Ω)(wr:Θ)
theorem yV:base.F.get 22=some f22:=by kernel_rfl
theorem kH:base.shared 22=false:=by kernel_rfl
def rkC:Code:=f22.body.getD .skip
def rkO:Code:=(aA rkC).getD .skip
def rkI:Code:=(aA rkO).getD .skip
def RF (fr:Ψ)(c:List (List ByteArray))(j:Nat):Prop:=fr.length=58∧nth fr 0=cE c∧nth fr 3=iv j
theorem Ze(c:List (List ByteArray))(j:Nat)(hj:j<c.length)(h:RF fr c j)(h4:nth fr 4=iv c[j].length) :
  ∃ fr',af (CC L) run k rkI ⟨fr,[],[]⟩=some (.exit 2,⟨fr',[],[]⟩)∧RF fr' c j:=by
 obtain⟨h0,h1,h3⟩:=h
 obtain⟨r,x1,x2⟩:=iJ uCl c j hj
 have hl:=fh c[j]
 generalize c[j]=p at *
 generalize p.length=m at *
 simp only[iv] at h3 h4
 simp[RF,rkI,rkO,rkC,f22,h0,h1,h3,h4,x1,x2,hl,uPt,aPt,sPt]
theorem MY(c:List (List ByteArray))(j:Nat)(hj:j<c.length)(i:Nat)(hi:i<c[j].length)(h9:c[j].length≤100)(v:Bool)(g:az L run 23 [.sc (.string c[j][i])] (.sc (.bool v)))(h:RF fr c j)(h4:nth fr 4=iv i) :
  ∃ fr',af (CC L) run k rkI ⟨fr,[],[]⟩=some (bif v then .normal else .ret,⟨fr',[],[]⟩)∧(v=true→RF fr' c j∧nth fr' 4=iv (i+1))∧(v=false→nth fr' 2=iv 1):=by
 obtain⟨h0,h1,h3⟩:=h
 obtain⟨r,x1,x2⟩:=iJ uCl c j hj
 obtain⟨r',y1,y2⟩:=uv uPt c[j] i hi
 have hl:=fh c[j]
 have hw:=bA i (by omega)
 unfold az at g
 generalize c[j][i]=s at *
 generalize c[j]=p at *
 simp only[iv] at h3 h4
 cases v <;> simp[RF,rkI,rkO,rkC,f22,aM,unP,and_assoc,h0,h1,h3,h4,x1,x2,y1,y2,hl,hi,g,hw,uPt,aPt,sPt,pz,fV]
theorem DT (L:Lst)(run:aw)(k:Nat)(c:List (List ByteArray))(j:Nat)(hj:j<c.length)(h9:c[j].length≤100)(g:∀ s ∈ c[j],az L run 23 [.sc (.string s)] (.sc (.bool (pB (IsV s))))):∀ (n i:Nat) (fr:Ψ),i+n=c[j].length→RF fr c j→nth fr 4=iv i →
  ∃ fr',ch (af (CC L) run k rkI) (n+1) ⟨fr,[],[]⟩=some (bif (c[j].drop i).all (fun s=>pB (IsV s)) then .exit 2 else .ret,⟨fr',[],[]⟩)∧((c[j].drop i).all (fun s=>pB (IsV s))=true→RF fr' c j)∧((c[j].drop i).all (fun s=>pB (IsV s))=false→nth fr' 2=iv 1)
 | 0,i,fr,hin,h,h4=>by
  have e:i=c[j].length:=by omega
  subst e
  obtain⟨fr',q1,q2⟩:=Ze L run k fr c j hj h h4
  rw[drop_length]
  exact⟨fr',bE q1,fun _=>q2,nofun⟩
 | n+1,i,fr,hin,h,h4=>by
  have hi:i<c[j].length:=by omega
  obtain⟨fr1,q1,q2,q3⟩:=MY L run k fr c j hj i hi h9 _ (g _ (getElem_mem hi)) h h4
  rw[drop_eq_getElem_cons hi,all_cons]
  cases hv:pB (IsV c[j][i]) with
  | false =>
   rw[hv] at q1 q3
   exact⟨fr1,ez q1,nofun,fun _=>q3 rfl⟩
  | true =>
   rw[hv] at q1 q2
   obtain⟨a1,a2⟩:=q2 rfl
   obtain⟨fr',s1,s2⟩:=DT L run k c j hj h9 g n (i+1) fr1 (by omega) a1 a2
   rw[Bool.true_and]
   exact⟨fr',by rw[ca q1];exact s1,s2⟩
def ad3:Code:=seq1 rkO
def rkB:Code:=blk (seq1 (bn rkO))
def yF:Code:=seq1 rkB
def Se:Code:=seq1 (bn rkB)
def ad2:Code:=bn (bn rkO)
theorem Sd:rkO = .seq ad3 (.seq (.block 1 (.seq yF (.seq Se (.block 2 (.loop rkI))))) ad2):=rfl
theorem Zb(c:List (List ByteArray))(h:RF fr c c.length) :
  ∃ fr',af (CC L) run k rkO ⟨fr,[],[]⟩=some (.exit 0,⟨fr',[],[]⟩)∧fr'.length=58:=by
 obtain⟨h0,h1,h3⟩:=h
 simp only[iv] at h3
 simp[rkO,rkC,f22,gP,h0,h1,h3,uCl]
theorem ahD(c:List (List ByteArray))(j:Nat)(hj:j<c.length)(h:RF fr c j) :
  ∃ fr1,af (CC L) run k ad3 ⟨fr,[],[]⟩=some (.normal,⟨fr1,[],[]⟩)∧RF fr1 c j:=by
 obtain⟨h0,h1,h3⟩:=h
 simp only[iv] at h3
 simp[RF,ad3,rkO,rkC,f22,gP,h0,h1,h3,uCl,hj]
theorem lt1 (m:Nat):((m:Int)<1)=(m=0):=by apply propext;omega
set_option maxHeartbeats 1000000 in
theorem Zf(c:List (List ByteArray))(j:Nat)(hj:j<c.length)(hc:0<c.length)(hb:c[j].length=0∨3<c[j].length∨c[j].length≠c[0].length)(h:RF fr c j) :
  ∃ fr',af (CC L) run k yF ⟨fr,[],[]⟩=some (.ret,⟨fr',[],[]⟩)∧nth fr' 2=iv 10:=by
 obtain⟨h0,h1,h3⟩:=h
 obtain⟨r,x1,x2⟩:=iJ uCl c 0 hc
 obtain⟨r',y1,y2⟩:=iJ uCl c j hj
 rw[show (((0:Nat):Int))=(0:Int) from rfl] at x1
 have hl:=fh c[j]
 have hl2:=fh c[0]
 generalize c[0]=q at *
 generalize c[j]=p at *
 generalize p.length=m at *
 generalize q.length=m0 at *
 simp only[iv] at h3
 by_cases b1:m=0
 ·subst b1
  simp[yF,rkB,blk,bn,rkO,rkC,f22,h0,h1,h3,hl,uPt,y1,y2,aPt,sPt,undef,number,FP.free]
 ·by_cases b2:3<m
  ·simp[yF,rkB,blk,bn,rkO,rkC,f22,h0,h1,h3,hl,uPt,y1,y2,aPt,sPt,undef,b1,b2,gt3,lt1,number,FP.free]
  ·have b3:m≠m0:=by rcases hb with hb | hb | hb <;> first | exact absurd hb b1 | exact absurd hb b2 | exact hb
   simp[yF,rkB,blk,bn,rkO,rkC,f22,FW,h0,h1,h3,hl,hl2,uPt,x1,x2,y1,y2,aPt,sPt,b1,b2,b3,gt3,lt1,number,FP.free]
set_option maxHeartbeats 1000000 in
theorem ad4(c:List (List ByteArray))(j:Nat)(hj:j<c.length)(hc:0<c.length)(b1:c[j].length≠0)(b2 : ¬ 3<c[j].length)(b3:c[j].length=c[0].length)(h:RF fr c j) :
  ∃ fr1 fr',af (CC L) run k yF ⟨fr,[],[]⟩=some (.normal,⟨fr1,[],[]⟩)∧af (CC L) run k Se ⟨fr1,[],[]⟩=some (.normal,⟨fr',[],[]⟩)∧RF fr' c j∧nth fr' 4=iv 0:=by
 obtain⟨h0,h1,h3⟩:=h
 obtain⟨r,x1,x2⟩:=iJ uCl c 0 hc
 obtain⟨r',y1,y2⟩:=iJ uCl c j hj
 rw[show (((0:Nat):Int))=(0:Int) from rfl] at x1
 have hl:=fh c[j]
 have hl2:=fh c[0]
 rw[← b3] at hl2
 clear b3
 generalize c[0]=q at *
 generalize c[j]=p at *
 generalize p.length=m at *
 simp only[iv] at h3
 obtain⟨fr1,g1,g2,g3,g4⟩:∃ fr1,af (CC L) run k yF ⟨fr,[],[]⟩=some (.normal,⟨fr1,[],[]⟩)∧fr1.length=58∧nth fr1 0=cE c∧nth fr1 3 = .sc (.int .i64 (j:Int)):=by
  simp[yF,rkB,blk,bn,rkO,rkC,f22,h0,h1,h3,hl,hl2,uPt,x1,x2,y1,y2,aPt,sPt,b1,b2,gt3,lt1,number,FP.free]
 refine⟨fr1,?_⟩
 rw[g1]
 simp[RF,Se,rkB,blk,bn,rkO,rkC,f22,and_assoc,g2,g3,g4]
theorem ahC(c:List (List ByteArray))(j:Nat)(hj:j<1000)(h:RF fr c j) :
  ∃ fr',af (CC L) run k ad2 ⟨fr,[],[]⟩=some (.normal,⟨fr',[],[]⟩)∧RF fr' c (j+1):=by
 obtain⟨h0,h1,h3⟩:=h
 have hw:=bA j (by omega)
 simp only[iv] at h3
 simp[RF,ad2,bn,rkO,rkC,f22,h0,h1,h3,hw]
theorem DS (L:Lst)(run:aw)(k:Nat)(hk:200≤k)(c:List (List ByteArray))(hF:Fit c)(g:∀ s:ByteArray,(bys s).length≤100000→az L run 23 [.sc (.string s)] (.sc (.bool (pB (IsV s))))):∀ (n j:Nat) (fr:Ψ),j+n=c.length→RF fr c j →
  (∃ fr',jH (hdL c) (c.drop j)=0∧ch (af (CC L) run k rkO) (n+1) ⟨fr,[],[]⟩=some (.exit 0,⟨fr',[],[]⟩)∧fr'.length=58)∨∃ fr',jH (hdL c) (c.drop j)≠0∧ch (af (CC L) run k rkO) (n+1) ⟨fr,[],[]⟩=some (.ret,⟨fr',[],[]⟩)∧nth fr' 2=iv (jH (hdL c) (c.drop j))
 | 0,j,fr,hjn,h=>by
  have e:j=c.length:=by omega
  subst e
  obtain⟨fr',q1,q2⟩:=Zb L run k fr c h
  rw[drop_length]
  exact .inl ⟨fr',rfl,bE q1,q2⟩
 | n+1,j,fr,hjn,h=>by
  have hj:j<c.length:=by omega
  have hc:0<c.length:=by omega
  have hh:hdL c=c[0].length:=by
   cases c with
   | nil=>simp at hc
   | cons p r=>rfl
  obtain⟨fr1,a1,a4⟩:=ahD L run k fr c j hj h
  have hFp:=hF.2 c[j] (getElem_mem hj)
  have hFc:=hF.1
  rw[drop_eq_getElem_cons hj]
  have run_ret:∀ {fr'},af (CC L) run k (.seq yF (.seq Se (.block 2 (.loop rkI)))) ⟨fr1,[],[]⟩=some (.ret,⟨fr',[],[]⟩)→ch (af (CC L) run k rkO) (n+1+1) ⟨fr,[],[]⟩=some (.ret,⟨fr',[],[]⟩):=by
   intro fr' hr
   refine ez ?_
   rw[Sd,ar a1]
   exact cj (kt hr)
  by_cases hb:c[j].length=0∨3<c[j].length∨c[j].length≠c[0].length
  ·obtain⟨fr',b1,b2⟩:=Zf L run k fr1 c j hj hc hb a4
   have hcp:pe (hdL c) c[j]=10:=by unfold pe;rw[hh,if_pos hb]
   refine .inr ⟨fr',?_,run_ret ?_,?_⟩
   ·rw[jH,hcp];simp
   ·rw[cj b1]
   ·rw[jH,hcp];exact b2
  ·have n1:c[j].length≠0:=fun e=>hb (.inl e)
   have n2 : ¬ 3<c[j].length:=fun e=>hb (.inr (.inl e))
   have n3:c[j].length=c[0].length:=Classical.byContradiction fun e=>hb (.inr (.inr e))
   obtain⟨fr3,fr4,b1,b2,b3,b6⟩:=ad4 L run k fr1 c j hj hc n1 n2 n3 a4
   obtain⟨fr5,d1,d2,d3⟩:=DT L run k c j hj hFp.1 (fun s hs=>g s (hFp.2 s hs)) c[j].length 0 fr4 (by omega) b3 b6
   rw[drop_zero] at d1 d2 d3
   have hcp:pe (hdL c) c[j]=bif c[j].all (fun s=>pB (IsV s)) then 0 else 1:=by unfold pe;rw[hh,if_neg hb]
   cases hv:c[j].all (fun s=>pB (IsV s)) with
   | false =>
    rw[hv] at d1 hcp
    have d4:=d3 hv
    refine .inr ⟨fr5,?_,run_ret ?_,?_⟩
    ·rw[jH,hcp];simp
    ·rw[ar b1,ar b2]
     exact da (bT d1 (by omega))
    ·rw[jH,hcp];exact d4
   | true =>
    rw[hv] at d1 hcp
    have d4:=d2 hv
    obtain⟨fr6,e1,e2⟩:=ahC L run k fr5 c j (by omega) d4
    have hgo:af (CC L) run k rkO ⟨fr,[],[]⟩=some (.normal,⟨fr6,[],[]⟩):=by
     rw[Sd,ar a1]
     have:af (CC L) run k (.seq yF (.seq Se (.block 2 (.loop rkI)))) ⟨fr1,[],[]⟩=some (.normal,⟨fr5,[],[]⟩):=by
      rw[ar b1,ar b2]
      exact bK (bT d1 (by omega))
     rw[ar (fF this)]
     exact e1
    have hce:jH (hdL c) (c[j]::c.drop (j+1))=jH (hdL c) (c.drop (j+1)):=by rw[jH,hcp];rfl
    rw[hce,ca hgo]
    exact DS L run k hk c hF g n (j+1) fr6 (by omega) e2
def Sc:Code:=seq1 (seq1 (ag 2 rkC))
theorem adY:ag 2 rkC = .seq (.seq Sc (.block 0 (.loop rkO))) (ag 3 rkC):=rfl
theorem Y8(c:List (List ByteArray))(h:64<c.length):∃ st,af (CC L) run k rkC ⟨entry 58 [cE c],[],[]⟩=some (.ret,st)∧bc TT st.fr st.hp f22.results.toList=some [iv 3]:=by
 obtain⟨e1,e2⟩:=cL 57 (cE c)
 generalize entry 58 [cE c]=fr0 at *
 have hl:=gP c
 generalize c.length=m at *
 have h2:((m:Int) > 64)=True:=by simp;omega
 have h3:((64:Int)<m)=True:=by simp;omega
 simp[rkC,f22,e1,e2,hl,uCl,h2,bc]
theorem ad0 (L:Lst)(run:aw)(k:Nat)(c:List (List ByteArray))(h : ¬ 64<c.length):∃ fr fr',ba (CC L) run k 2 rkC ⟨entry 58 [cE c],[],[]⟩=some ⟨fr,[],[]⟩∧af (CC L) run k Sc ⟨fr,[],[]⟩=some (.normal,⟨fr',[],[]⟩)∧RF fr' c 0:=by
 obtain⟨e1,e2⟩:=cL 57 (cE c)
 generalize entry 58 [cE c]=fr0 at *
 have hl:=gP c
 have h2:((c.length:Int) > 64)=False:=by simp;omega
 have h3:((64:Int)<c.length)=False:=by simp;omega
 obtain⟨fr,a1,a2,a3⟩:∃ fr,ba (CC L) run k 2 rkC ⟨fr0,[],[]⟩=some ⟨fr,[],[]⟩∧fr.length=58∧nth fr 0=cE c:=by
  simp[rkC,f22,ba,e1,e2,hl,uCl,h2]
 refine⟨fr,?_⟩
 rw[a1]
 simp[RF,Sc,ag,rkC,f22,a2,a3]
theorem Y7(h0:fr.length=58):∃ st,af (CC L) run k (ag 3 rkC) ⟨fr,[],[]⟩=some (.ret,st)∧bc TT st.fr st.hp f22.results.toList=some [iv 0]:=by
 simp[rkC,ag,f22,h0,bc]
theorem adZ(n:Nat)(h:nth fr 2=iv n):bc TT fr [] f22.results.toList=some [iv n]:=by
 simp[f22,bc,h]
theorem Y9(hk:200≤k)(c:List (List ByteArray))(hF:Fit c)(g:∀ s:ByteArray,(bys s).length≤100000→az L run 23 [.sc (.string s)] (.sc (.bool (pB (IsV s))))) :
  ∃ st,af (CC L) run k rkC ⟨entry 58 [cE c],[],[]⟩=some (.ret,st)∧bc TT st.fr st.hp f22.results.toList=some [iv (chk c)]:=by
 unfold chk
 by_cases h:64<c.length
 ·rw[if_pos h];exact Y8 L run k c h
 ·rw[if_neg h]
  obtain⟨fr,fr1,a1,a2,a3⟩:=ad0 L run k c h
  rw[aQ 2 a1,adY]
  have hl:=DS L run k hk c hF g c.length 0 fr1 (by omega) a3
  rw[drop_zero] at hl
  rcases hl with ⟨fr2,h0,b1,b2⟩| ⟨fr3,b0,b1,b2⟩
  ·have:af (CC L) run k (.seq Sc (.block 0 (.loop rkO))) ⟨fr,[],[]⟩=some (.normal,⟨fr2,[],[]⟩):=by
    rw[ar a2];exact bK (bT b1 (by have:=hF.1;omega))
   rw[ar this,h0]
   exact Y7 L run k fr2 b2
  ·have:af (CC L) run k (.seq Sc (.block 0 (.loop rkO))) ⟨fr,[],[]⟩=some (.ret,⟨fr3,[],[]⟩):=by
    rw[ar a2];exact da (bT b1 (by have:=hF.1;omega))
   rw[cj this]
   exact⟨_,rfl,adZ fr3 _ b2⟩
def LQ5:Lst:=[(77,vJ),(23,J8)]
theorem XD:dt base.P LQ5:=⟨vI,zy,trivial⟩
theorem jV {c d:List (List ByteArray)}(h:[cE c]=[cE d]):c=d:=yk (by simpa using h)
theorem FJ:Ab.Spec base.P 80 rP:=Ab.Spec.bN (C:=CC LQ5) (cP XD) fun args rs h=>by
 obtain⟨c,hF,rfl,rfl⟩:=cV h
 obtain⟨st,x1,x2⟩:=acf LQ5 (runK (CC LQ5) 200) 200 (by omega) c hF (fun s h9=>LP rfl _ s h9)
 exact⟨201,_,_,_,_,_,aV Gp rfl x1 x2,rfl,Wk.refl rfl,trivial⟩
theorem zH:Ab.Spec base.P 22 rP:=Ab.Spec.bN (C:=CC LQ5) (cP XD) fun args rs h=>by
 obtain⟨c,hF,rfl,rfl⟩:=cV h
 obtain⟨st,x1,x2⟩:=Y9 LQ5 (runK (CC LQ5) 200) 200 (by omega) c hF (fun s h9=>XK rfl _ s h9)
 exact⟨201,_,_,_,_,_,aV yV rfl x1 x2,rfl,Wk.refl rfl,trivial⟩
theorem qE (hp:Θ)(c:List (List ByteArray)):bj (snap hp bp) [cE c]=some ([cE c],[]):=rfl
theorem oZ (c:List (List ByteArray)):aJ [cE c]=[cE c]:=by simp only[aJ,gj]
theorem XO {L:Lst}(hL:bt L 80=fun a=>rP (aJ a))(run:aw)(c:List (List ByteArray))(hF:Fit c):az L run 80 [cE c] (iv (chk c)) :=
 fT MN (e:=fun c=>[cE c]) (f:=fun c=>[iv (chk c)]) hL (fun x y _ _ h=>by rw[jV h]) run c hF (qE · c) (oZ c)
theorem ag1 {L:Lst}(hL:bt L 22=fun a=>rP (aJ a))(run:aw)(c:List (List ByteArray))(hF:Fit c):az L run 22 [cE c] (iv (chk c)) :=
 fT kH (e:=fun c=>[cE c]) (f:=fun c=>[iv (chk c)]) hL (fun x y _ _ h=>by rw[jV h]) run c hF (qE · c) (oZ c)
def rc:Option Rat→Ψ
 | none=>[.sc (.bool (bw 0)),aO (aK (Int.natAbs 0)),.sc (.bool (bw 0)),aO (aK (Int.natAbs 0))]
 | some x=>[.sc (.bool (bw x.num)),aO (aK x.num.natAbs),.sc (.bool (bw x.den)),aO (aK (x.den:Int).natAbs)]
theorem wo (u:Option Rat):rv u = .agg (rc u):=by cases u <;> rfl
def rz:Ψ:=[.sc (.bool false),.sc (.slice none 0 0),.sc (.bool false),.sc (.slice none 0 0)]
theorem wE (u:Option Rat):(rc u).length=4:=by cases u <;> rfl
theorem pr:Ec 4 rc where
 len:=wE
 okc:=fun u=>by cases u <;> rfl
 can:=fun u=>by
  have h:=rU u
  rw[wo,canon] at h
  simpa using h
 idf:=fun u=>by cases u <;> rfl
 sn:=fun hp d u=>by cases u <;> rfl
def rcs (x:Rat):Ψ:=rc (some x)
theorem cl:Ec 4 rcs where
 len:=fun x=>pr.len _
 okc:=fun x=>pr.okc _
 can:=fun x=>pr.can _
 idf:=fun x=>pr.idf _
 sn:=fun hp d x=>pr.sn hp d _
theorem mg (x:Rat):rv (some x) = .agg (rcs x):=rfl
def Rp (p:PV)(u:Option Rat):Prop:=p=rv u∨(u=none∧p = .agg rz)
def Rc (cs:Ψ)(u:Option Rat):Prop:=cs=rc u∨(u=none∧cs=rz)
theorem Rc.p {cs:Ψ}{u:Option Rat}(h:Rc cs u):Rp (.agg cs) u:=by
 rcases h with rfl | ⟨rfl,rfl⟩
 ·exact .inl (wo u).symm
 ·exact .inr ⟨rfl,rfl⟩
theorem Rc.len {cs:Ψ}{u:Option Rat}(h:Rc cs u):cs.length=4:=by
 rcases h with rfl | ⟨rfl,rfl⟩
 ·exact wE u
 ·rfl
theorem Rp.snap {p:PV}{u:Option Rat}(h:Rp p u)(hp:Θ)(d:Nat):Ab.snap hp (d+2) p=some (p,[]):=by
 rcases h with rfl | ⟨rfl,rfl⟩
 ·exact YB hp d u
 ·rfl
theorem Rp.canon {p:PV}{u:Option Rat}(h:Rp p u):Ab.canon p=rv u:=by
 rcases h with rfl | ⟨rfl,rfl⟩
 ·exact rU u
 ·rfl
theorem Rp.wk {p:PV}{u:Option Rat}(h:Rp p u):Wk p (rv u):=by
 rcases h with rfl | ⟨rfl,rfl⟩
 ·exact Wk.refl (by cases u <;> rfl)
 ·exact Wk.agg ⟨Wk.refl rfl,Wk.nil false,Wk.refl rfl,Wk.nil false,trivial⟩
theorem Rp.Dl {p:PV}{u:Option Rat}(h:Rp p u)(hp:Θ):bj (Ab.snap hp bp) [p]=some ([p],[]):=by
 have:=h.snap hp 10
 show bj (Ab.snap hp 12) [p]=_
 simp only[bj,this];rfl
theorem Rp.acP {p q:PV}{u v:Option Rat}(h:Rp p u)(h':Rp q v)(hp:Θ):bj (Ab.snap hp bp) [p,q]=some ([p,q],[]):=by
 have h1:=h.snap hp 10
 have h2:=h'.snap hp 10
 show bj (Ab.snap hp 12) [p,q]=_
 simp only[bj,h1,h2];rfl
theorem kD {L:Lst}{g:Nat}{f:Ψ→Option Ψ}(hs:base.shared g=false)(ho:bt L g=fun a=>f (aJ a))(run:aw)(dr:Bool)(hp:Θ)(args args' rs:Ψ)
  (h1:bj (snap hp bp) args=some (args,[])) (h2:aJ args=args') (h3:f args'=some rs):bU (CC L) run dr hp g args=some (ja rs,hp,⟨[],[],false,false⟩):=by
 have h4:(CC L).orc g args=some rs:=by
  show bt L g args=_
  rw[ho];show f (aJ args)=_;rw[h2,h3]
 by_cases h:rs.all ed=true
 ·exact ke hs h1 h4 h
 ·exact et hs h1 h4 (by simpa using h)
theorem XG {L:Lst}(hL:bt L 87=fun a=>fW (aJ a))(run:aw){p q:PV}{u v:Option Rat}(hp:Rp p u)(hq:Rp q v){j k:Nat}(hu:Rb j (vv u))(hv:Rb k (vv v))(h:j+k≤1000000):az L run 87 [p,q] (rv (some (vv u+vv v))):=fun dr hh =>
 kD Bz hL run dr hh _ _ [rv (some (vv u+vv v))] (hp.acP hq hh) (by simp only[aJ,hp.canon,hq.canon]) (wF hu hv h)
theorem XE {L:Lst}(hL:bt L 56=fun a=>jy (aJ a))(run:aw){p q:PV}{u v:Option Rat}(hp:Rp p u)(hq:Rp q v){j k:Nat}(hu:Rb j (vv u))(hv:Rb k (vv v))(h:j+k≤1000000):az L run 56 [p,q] (rv (some (vv u*vv v))):=fun dr hh =>
 kD J5 hL run dr hh _ _ [rv (some (vv u*vv v))] (hp.acP hq hh) (by simp only[aJ,hp.canon,hq.canon]) (DR hu hv h)
theorem agV {L:Lst}(hL:bt L 106=fun a=>ki (aJ a))(run:aw){p:PV}{u:Option Rat}(hp:Rp p u){j:Nat}(hu:Rb j (vv u))(h:j≤1000000):az L run 106 [p] (rv (G8 u)):=fun dr hh =>
 kD J4 hL run dr hh _ _ [rv (G8 u)] (hp.Dl hh) (by simp only[aJ,hp.canon]) (DQ hu h)
theorem acE {L:Lst}(hL:bt L 49=fun a=>iZ (aJ a))(run:aw){p:PV}{u:Option Rat}(hp:Rp p u){j:Nat}(hu:Rb j (vv u))(h:j≤1000000):az L run 49 [p] (Ab.bJ (nk (vv u))):=fun dr hh =>
 kD DG hL run dr hh _ _ [Ab.bJ (nk (vv u))] (hp.Dl hh) (by simp only[aJ,hp.canon]) (zz hu h)
def dm (x:Bool)(X:List Rat):PV:=.imm X.length x (X.flatMap rcs)
def vR (X:List Rat):PV:=dm false X
theorem AX (x:Bool)(X:List Rat):canon (dm x X)=vR X:=cl.ago _ x X rfl
theorem vO:und TT 84=some (.slice 72):=by kernel_rfl
theorem bR:fQ TT 72=some 64:=by kernel_rfl
theorem zRz:eB TT 72=some rz:=by kernel_rfl
theorem R3:de TT 84=some 1:=by kernel_rfl
theorem ajY:fq TT 84=some false:=by kernel_rfl
theorem HZ (x:Bool)(X:List Rat):dK (dm x X)=true:=rfl
theorem Iv (id n i:Nat)(x:Bool)(hi:i<n):aU TT 84 (.own id 4 0 n x) (.sc (.int .i64 (i:Int)))=some (.ptr id (i*4)):=by
 simp only[aU,vO,bh,sR,hi,and_self,if_true,Nat.zero_add]
theorem acO (cs rest:Ψ)(h:cs.length=4):bD (cs++rest) 4=some cs:=by
 rw[dc (by simp;omega),← h,take_left]
theorem pO (x:Bool)(X:List Rat)(i:Nat)(hi:i<X.length):∃ r,aU TT 84 (dm x X) (.sc (.int .i64 (i:Int)))=some (.iptr r)∧bD r 4=some (rcs X[i]):=by
 refine⟨bq (X.flatMap rcs) (i*4),?_,?_⟩
 ·unfold dm
  simp only[aU,vO,bh,sR,hi,if_true]
 ·rw[jT cl.toEl X i hi,acO _ _ (cl.len _)]
theorem An (A:Ψ)(m:Nat)(cs:Ψ)(h:cs.length=4)(i:Nat)(hi:A.length=i*4):cm (A++rep (m+1) rz) (i*4) cs=some ((A++cs)++rep m rz):=by
 have:=Al A (rep (m+1) rz) cs (cs++rep m rz) 0 (xo rz cs (rep m rz) (by rw[h];rfl))
 rw[show A.length+0=i*4 by omega] at this
 rw[this,append_assoc]
theorem jb (X:List Rat):(X.flatMap rcs).length=X.length*4:=cl.length X
theorem Jq:base.F.get 59=some f59:=by kernel_rfl
theorem Rm:base.shared 59=false:=by kernel_rfl
def prC:Code:=f59.body.getD .skip
def prB:Code:=(aA prC).getD .skip
def PF (fr:Ψ)(P:List ByteArray)(i:Nat):Prop:=fr.length=26∧nth fr 3 = .own 0 4 0 P.length true∧nth fr 9=pE P∧nth fr 10=iv P.length∧nth fr 11=iv i
theorem ael (L:Lst)(run:aw)(k:Nat)(fr:Ψ)(hp:Θ)(wr:Ω)(P:List ByteArray)(h:PF fr P P.length) :
  ∃ fr',af (CC L) run k prB ⟨fr,hp,wr⟩=some (.exit 0,⟨fr',hp,wr⟩)∧fr'.length=26∧nth fr' 3 = .own 0 4 0 P.length true:=by
 obtain⟨h0,h3,h9,h10,h11⟩:=h
 simp only[iv] at h10 h11
 simp[prB,prC,f59,h0,h3,h10,h11]
set_option maxHeartbeats 1000000 in
theorem TC (L:Lst)(run:aw)(k:Nat)(fr:Ψ)(wr:Ω)(P:List ByteArray)(i m:Nat)(A:Ψ)(x:Rat)(hi:i<P.length)(h9':P.length≤1000)(hA:A.length=i*4)(g:az L run 108 [.sc (.string P[i])] (.tup [rv (some x),.sc (.bool true)]))(h:PF fr P i) :
  ∃ fr' wr',af (CC L) run k prB ⟨fr,[⟨.live,A++rep (m+1) rz⟩],wr⟩=some (.normal,⟨fr',[⟨.live,(A++rcs x)++rep m rz⟩],wr'⟩)∧PF fr' P (i+1):=by
 obtain⟨h0,h3,h9,h10,h11⟩:=h
 obtain⟨r,x1,x2⟩:=uv uPt P i hi
 have x3:=Iv 0 P.length i true hi
 have ho:=An A m (rcs x) (cl.len x) i hA
 have hw:=bA i (by omega)
 have hok:=cl.okc x
 have hlen:=cl.len x
 rw[mg] at g
 unfold az at g
 generalize P[i]=s at *
 generalize rcs x=cs at *
 generalize A++rep (m+1) rz=Z at *
 simp only[iv] at h10 h11
 simp[PF,prB,prC,f59,aM,and_assoc,bm,h0,h3,h9,h10,h11,hi,x1,x2,x3,g,ho,hok,hlen,hw,pz,fV,sR,aP,bZ,bm]
theorem KD (L:Lst)(run:aw)(k:Nat)(X:List Rat)(h9:X.length≤1000)(g:∀ x ∈ X,az L run 108 [.sc (.string (qb x))] (.tup [rv (some x),.sc (.bool true)])):∀ (n i:Nat) (fr:Ψ) (wr:Ω),i+n=X.length→PF fr (X.map qb) i →
  ∃ fr' wr',ch (af (CC L) run k prB) (n+1) ⟨fr,[⟨.live,(X.take i).flatMap rcs++rep n rz⟩],wr⟩=some (.exit 0,⟨fr',[⟨.live,X.flatMap rcs⟩],wr'⟩)∧fr'.length=26∧nth fr' 3 = .own 0 4 0 X.length true
 | 0,i,fr,wr,hin,h=>by
  have e:i=(X.map qb).length:=by simpa using hin
  rw[e] at h
  obtain⟨fr',q1,q2,q3⟩:=ael L run k fr [⟨.live,(X.take i).flatMap rcs++rep 0 rz⟩] wr (X.map qb) h
  have e2:(X.take i).flatMap rcs++rep 0 rz=X.flatMap rcs:=by
   rw[take_of_length_le (by omega)];simp[rep]
  rw[e2] at q1 ⊢
  exact⟨fr',wr,bE q1,q2,by rw[q3];simp⟩
 | n+1,i,fr,wr,hin,h=>by
  have hi:i<X.length:=by omega
  have hi':i<(X.map qb).length:=by simpa using hi
  have hg:=g X[i] (getElem_mem hi)
  obtain⟨fr1,wr1,q1,q2⟩:=TC L run k fr wr (X.map qb) i n ((X.take i).flatMap rcs) X[i] hi' (by simpa using h9) (by rw[jb,length_take,Nat.min_eq_left (by omega)]) (by rw[getElem_map];exact hg) h
  obtain⟨fr',wr',s1,s2⟩:=KD L run k X h9 g n (i+1) fr1 wr1 (by omega) q2
  refine⟨fr',wr',?_,s2⟩
  rw[ca q1]
  have e:(X.take i).flatMap rcs++rcs X[i]=(X.take (i+1)).flatMap rcs:=by
   rw[take_succ_eq_append_getElem hi,flatMap_append];simp
  rw[e]
  exact s1
def ZV:Code:=seq1 (seq1 (ag 2 prC))
theorem aej:ag 2 prC = .seq (.seq ZV (.block 0 (.loop prB))) (ag 3 prC):=rfl
theorem aek (L:Lst)(run:aw)(k:Nat)(P:List ByteArray)(h9:P.length≤1000) :
  ∃ fr fr' wr,ba (CC L) run k 2 prC ⟨entry 26 [pE P],[],[]⟩=some ⟨fr,[⟨.live,rep P.length rz⟩],wr⟩∧af (CC L) run k ZV ⟨fr,[⟨.live,rep P.length rz⟩],wr⟩=some (.normal,⟨fr',[⟨.live,rep P.length rz⟩],wr⟩)∧PF fr' P 0:=by
 obtain⟨e1,e2⟩:=cL 25 (pE P)
 generalize entry 26 [pE P]=fr0 at *
 have hm:P.length≤cN:=Nat.le_trans h9 (by decide)
 obtain⟨fr,wr,a1,a2,a3,a4⟩:∃ fr wr,ba (CC L) run k 2 prC ⟨fr0,[],[]⟩=some ⟨fr,[⟨.live,rep P.length rz⟩],wr⟩∧fr.length=26∧nth fr 0=pE P∧nth fr 3 = .own 0 4 0 P.length true:=by
  have hrz:rz.length=4:=rfl
  simp[prC,f59,ba,e1,e2,bh,and_assoc,fh,uPt,vO,sR,bR,zRz,hm,hrz,bQ,aL]
 refine⟨fr,?_⟩
 simp only[a1]
 simp[PF,ZV,ag,prC,f59,a2,a3,a4,fh,uPt]
theorem ZU (L:Lst)(run:aw)(k:Nat)(fr:Ψ)(hp:Θ)(wr:Ω)(p:PV)(h0:fr.length=26)(h3:nth fr 3=p):∃ st,af (CC L) run k (ag 3 prC) ⟨fr,hp,wr⟩=some (.ret,st)∧st.hp=hp∧bc TT st.fr st.hp f59.results.toList=some [p]:=by
 simp[prC,ag,f59,h0,h3,bc]
theorem JO (hp:Θ)(id:Nat)(x:Bool)(X:List Rat)(h:aP hp id=some ⟨.live,X.flatMap rcs⟩):bj (snap hp bp) [.own id 4 0 X.length x]=some ([dm x X],[id]):=by
 have ht:bD (bq (X.flatMap rcs) 0) (X.length*4)=some (X.flatMap rcs):=by
  have:=m7 cl.toEl X []
  rw[append_nil] at this
  rw[cA,drop_zero,this]
 have h1:Ab.snap hp (11+1) (.own id 4 0 X.length x)=some (dm x X,[id]):=by
  rw[Ab.snap]
  simp only[h]
  rw[if_neg (by simp),ht]
  simp only[cl.sns hp 10 X]
  rfl
 show bj (snap hp 12) _=_
 simp only[bj,h1]
 rfl
def LR1:Lst:=[(108,rrF),(55,tK),(56,jy),(87,fW),(106,ki),(49,iZ),(110,Fq)]
theorem yu:dt base.P LR1:=⟨qJ,sy,oK,lL,oJ,kh,OU,trivial⟩
def RbL (k:Nat)(X:List Rat):Prop:=∀ x ∈ X,Rb k x
def qL (X:List Rat):PV:=pE (X.map qb)
theorem BZ {X Y:List Rat}(h:qL X=qL Y):X=Y:=by
 have h1:=HV h
 clear h
 induction X generalizing Y with
 | nil=>cases Y with
  | nil=>rfl
  | cons b Y=>simp at h1
 | cons a X ih=>cases Y with
  | nil=>simp at h1
  | cons b Y =>
   simp only[map_cons,List.cons.injEq] at h1
   rw[pI h1.1,ih h1.2]
def B4:Ψ→Option Ψ:=ctr (fun X:List Rat=>[qL X]) (fun X=>RbL 1000 X∧X.length≤1000) fun X=>[dm true X]
theorem xc:Ab.Spec base.P 59 B4:=Ab.Spec.bN (C:=CC LR1) (cP yu) fun args rs h=>by
 obtain⟨X,⟨hb,h9⟩,rfl,rfl⟩:=cV h
 have hX:(X.map qb).length=X.length:=length_map _
 obtain⟨fr,fr1,wr,a1,a2,a3⟩:=aek LR1 (runK (CC LR1) (X.length+1)) (X.length+1) (X.map qb) (by omega)
 obtain⟨fr2,wr2,b1,b2,b3⟩:=KD LR1 (runK (CC LR1) (X.length+1)) (X.length+1) X h9 (fun x hx=>adi rfl _ (hb x hx) (by omega)) X.length 0 fr1 wr (by omega) a3
 rw[hX] at a1 a2
 have hl:af (CC LR1) (runK (CC LR1) (X.length+1)) (X.length+1) (.seq ZV (.block 0 (.loop prB))) ⟨fr,[⟨.live,rep X.length rz⟩],wr⟩=some (.normal,⟨fr2,[⟨.live,X.flatMap rcs⟩],wr2⟩):=by
  rw[ar a2];exact bK b1
 obtain⟨st,c1,c2,c3⟩:=ZU LR1 (runK (CC LR1) (X.length+1)) (X.length+1) fr2 [⟨.live,X.flatMap rcs⟩] wr2 _ b2 b3
 have hx:af (CC LR1) (runK (CC LR1) (X.length+1)) (X.length+1) prC ⟨entry 26 [pE (X.map qb)],[],[]⟩=some (.ret,st):=by
  rw[aQ 2 a1,aej,ar hl,c1]
 exact⟨_,_,_,_,[dm true X],[0],aV Jq rfl hx c3,by rw[c2];exact JO _ 0 true X rfl,Wk.refl rfl,trivial⟩
theorem vz {L:Lst}(hL:bt L 59=fun a=>B4 (aJ a))(run:aw)(X:List Rat)(hb:RbL 1000 X)(h9:X.length≤1000):az L run 59 [qL X] (dm true X) :=
 fT Rm (e:=fun X=>[qL X]) (f:=fun X=>[dm true X]) hL (fun x y _ _ h=>by rw[BZ (X:=x) (Y:=y) (by simpa using h)]) run X ⟨hb,h9⟩ (fun _=>rfl) (by simp only[aJ,qL,kA])
theorem al1 (hp:Θ)(z:Ψ):aP (aL hp z) hp.length=some ⟨.live,z⟩:=by rw[bz,if_pos rfl]
theorem al2 (hp:Θ)(z:Ψ)(b:Blk):aP (bZ (aL hp z) hp.length b) hp.length=some b:=by rw[cI (al1 hp z),if_pos rfl]
theorem al3 (hp:Θ)(z:Ψ)(b:Blk)(i:Nat)(h:i<hp.length):aP (bZ (aL hp z) hp.length b) i=aP hp i:=by
 rw[cI (al1 hp z),if_neg (by omega),bz,if_neg (by omega)]
theorem al4 (hp:Θ)(z:Ψ)(b:Blk):(bZ (aL hp z) hp.length b).length=hp.length+1:=by rw[bC];simp[aL]
theorem dH (z cs:Ψ)(h:z.length=cs.length):cm z 0 cs=some cs:=by
 have:=xo z cs [] h
 simpa using this
theorem dM (cs:Ψ)(h:cs.length=4):bD cs 4=some cs:=by have:=acO cs [] h;simpa using this
theorem PJ:base.F.get 60=some f60:=by kernel_rfl
theorem YJ:base.shared 60=false:=by kernel_rfl
def psC:Code:=f60.body.getD .skip
def psB:Code:=(aA psC).getD .skip
def Jd (fr:Ψ)(X Y:List Rat)(i:Nat):Prop:=fr.length=29∧nth fr 1=vR Y∧nth fr 5 = .own 0 4 0 X.length true∧nth fr 11=vR X∧nth fr 12=iv X.length∧nth fr 13=iv i
theorem aei (L:Lst)(run:aw)(k:Nat)(fr:Ψ)(hp:Θ)(wr:Ω)(X Y:List Rat)(h:Jd fr X Y X.length) :
  ∃ fr',af (CC L) run k psB ⟨fr,hp,wr⟩=some (.exit 0,⟨fr',hp,wr⟩)∧fr'.length=29∧nth fr' 5 = .own 0 4 0 X.length true:=by
 obtain⟨h0,h1,h5,h11,h12,h13⟩:=h
 simp only[iv] at h12 h13
 simp[psB,psC,f60,h0,h5,h12,h13]
theorem ZS (L:Lst)(run:aw)(k:Nat)(fr:Ψ)(hp:Θ)(wr:Ω)(X Y:List Rat)(i m:Nat)(A:Ψ)(hi:i<X.length)(hy:i<Y.length)(h9':X.length≤1000)(hA:A.length=i*4)(g:az L run 55 [rv (some X[i]),rv (some Y[i])] (rv (some (X[i] - Y[i]))))(h:Jd fr X Y i)(hb:aP hp 0=some ⟨.live,A++rep (m+1) rz⟩)(hn:0<hp.length) :
  ∃ fr' hp' wr',af (CC L) run k psB ⟨fr,hp,wr⟩=some (.normal,⟨fr',hp',wr'⟩)∧Jd fr' X Y (i+1)∧aP hp' 0=some ⟨.live,(A++rcs (X[i] - Y[i]))++rep m rz⟩∧0<hp'.length:=by
 obtain⟨h0,h1,h5,h11,h12,h13⟩:=h
 obtain⟨r,x1,x2⟩:=pO false X i hi
 obtain⟨r',y1,y2⟩:=pO false Y i hy
 have x3:=Iv 0 X.length i true hi
 have ho:=An A m (rcs (X[i] - Y[i])) (cl.len _) i hA
 have hw:=bA i (by omega)
 have hx:=al1 hp rz
 have hx1:=dH rz (rcs X[i]) (by rw[cl.len];rfl)
 have hx2:=al2 hp rz ⟨.live,rcs X[i]⟩
 have hx3:=(al3 hp rz ⟨.live,rcs X[i]⟩ 0 hn).trans hb
 have hx4:=dM (rcs X[i]) (cl.len _)
 have hx5:aP (bZ (bZ (aL hp rz) hp.length ⟨.live,rcs X[i]⟩) 0 ⟨.live,(A++rcs (X[i] - Y[i]))++rep m rz⟩) 0=some ⟨.live,(A++rcs (X[i] - Y[i]))++rep m rz⟩:=by rw[cI hx3,if_pos rfl]
 have hx6:0<(bZ (bZ (aL hp rz) hp.length ⟨.live,rcs X[i]⟩) 0 ⟨.live,(A++rcs (X[i] - Y[i]))++rep m rz⟩).length:=by rw[bC,al4];omega
 have hokx:=cl.okc X[i]
 have hlx:=cl.len X[i]
 have hokd:=cl.okc (X[i] - Y[i])
 have hld:=cl.len (X[i] - Y[i])
 have hn0:hp.length≠0:=by omega
 have hn1:(0=hp.length)=False:=by simp;omega
 rw[mg,mg,mg] at g
 unfold az at g
 generalize rcs (X[i] - Y[i])=cd at *
 generalize rcs X[i]=cx at *
 generalize rcs Y[i]=cy at *
 generalize A++rep (m+1) rz=Z at *
 generalize A++cd++rep m rz=Z' at *
 simp only[iv] at h12 h13
 have hv1:dm false X=vR X:=rfl
 have hv2:dm false Y=vR Y:=rfl
 rw[hv1] at x1
 rw[hv2] at y1
 have zR':=zRz
 simp[Jd,psB,psC,f60,aM,and_assoc,bm,h0,h1,h5,h11,h12,h13,hi,x1,x2,x3,y1,y2,g,ho,hx,hx1,hx2,hx3,hx4,hx5,hx6,hokx,hlx,hokd,hld,hn1,hw,aR,sR,zR',bq,number,FP.free,cD,FP.apart]
theorem KC (L:Lst)(run:aw)(k:Nat)(X Y:List Rat)(h9:X.length≤1000)(hXY:X.length=Y.length)(g:∀ i (h1:i<X.length)(h2:i<Y.length),az L run 55 [rv (some X[i]),rv (some Y[i])] (rv (some (X[i] - Y[i])))):∀ (n i:Nat) (fr:Ψ) (hp:Θ) (wr:Ω),i+n=X.length→Jd fr X Y i→aP hp 0=some ⟨.live,((List.zipWith (· - ·) X Y).take i).flatMap rcs++rep n rz⟩→0<hp.length →
  ∃ fr' hp' wr',ch (af (CC L) run k psB) (n+1) ⟨fr,hp,wr⟩=some (.exit 0,⟨fr',hp',wr'⟩)∧fr'.length=29∧nth fr' 5 = .own 0 4 0 X.length true∧aP hp' 0=some ⟨.live,(List.zipWith (· - ·) X Y).flatMap rcs⟩
 | 0,i,fr,hp,wr,hin,h,hb,hn=>by
  have e:i=X.length:=by omega
  rw[e] at h
  obtain⟨fr',q1,q2,q3⟩:=aei L run k fr hp wr X Y h
  refine⟨fr',hp,wr,bE q1,q2,q3,?_⟩
  rw[hb,take_of_length_le (by rw[length_zipWith];omega)];simp[rep]
 | n+1,i,fr,hp,wr,hin,h,hb,hn=>by
  have hi:i<X.length:=by omega
  have hy:i<Y.length:=by omega
  have hz:i<(List.zipWith (· - ·) X Y).length:=by rw[length_zipWith];omega
  obtain⟨fr1,hp1,wr1,q1,q2,q3,q4⟩:=ZS L run k fr hp wr X Y i n _ hi hy h9 (by rw[jb,length_take,Nat.min_eq_left (by omega)]) (g i hi hy) h hb hn
  obtain⟨fr',hp',wr',s1,s2⟩:=KC L run k X Y h9 hXY g n (i+1) fr1 hp1 wr1 (by omega) q2 (by
   rw[q3,take_succ_eq_append_getElem hz,flatMap_append];simp) q4
  exact⟨fr',hp',wr',by rw[ca q1];exact s1,s2⟩
def ZT:Code:=seq1 (seq1 (ag 2 psC))
theorem aeg:ag 2 psC = .seq (.seq ZT (.block 0 (.loop psB))) (ag 3 psC):=rfl
theorem aeh (L:Lst)(run:aw)(k:Nat)(X Y:List Rat)(h9:X.length≤1000) :
  ∃ fr fr' wr,ba (CC L) run k 2 psC ⟨entry 29 [vR X,vR Y],[],[]⟩=some ⟨fr,[⟨.live,rep X.length rz⟩],wr⟩∧af (CC L) run k ZT ⟨fr,[⟨.live,rep X.length rz⟩],wr⟩=some (.normal,⟨fr',[⟨.live,rep X.length rz⟩],wr⟩)∧Jd fr' X Y 0:=by
 obtain⟨e1,e2,e3⟩:=cC 27 (vR X) (vR Y)
 generalize entry 29 [vR X,vR Y]=fr0 at *
 have hm:X.length≤cN:=Nat.le_trans h9 (by decide)
 have hl:dy (vR X)=some X.length:=rfl
 obtain⟨fr,wr,a1,a2,a3,a4,a5⟩:∃ fr wr,ba (CC L) run k 2 psC ⟨fr0,[],[]⟩=some ⟨fr,[⟨.live,rep X.length rz⟩],wr⟩∧fr.length=29∧nth fr 0=vR X∧nth fr 5 = .own 0 4 0 X.length true∧nth fr 1=vR Y:=by
  have hrz:rz.length=4:=rfl
  simp[psC,f60,ba,e1,e2,e3,bh,and_assoc,vO,hl,sR,bR,zRz,hm,hrz,bQ,aL]
 refine⟨fr,?_⟩
 simp only[a1]
 simp[Jd,ZT,ag,psC,f60,a2,a3,a4,a5,vO,hl]
theorem ZR (L:Lst)(run:aw)(k:Nat)(fr:Ψ)(hp:Θ)(wr:Ω)(p:PV)(h0:fr.length=29)(h3:nth fr 5=p):∃ st,af (CC L) run k (ag 3 psC) ⟨fr,hp,wr⟩=some (.ret,st)∧st.hp=hp∧bc TT st.fr st.hp f60.results.toList=some [p]:=by
 simp[psC,ag,f60,h0,h3,bc]
theorem Zo {k:Nat}{x y:Rat}(hx:Rb k x)(hy:Rb k y)(h9:k≤2000000)(h:rcs x=rcs y):x=y:=by
 have h1:rv (some x)=rv (some y):=by rw[mg,mg,h]
 have:=R4 (u:=some x) (v:=some y) hx hy h9 h1
 simpa using this
theorem vM {k:Nat}{X Y:List Rat}(hX:RbL k X)(hY:RbL k Y)(h9:k≤2000000)(h:vR X=vR Y):X=Y:=by
 unfold vR dm at h
 simp only[PV.imm.injEq,true_and] at h
 obtain⟨h1,h2⟩:=h
 clear h1
 induction X generalizing Y with
 | nil=>cases Y with
  | nil=>rfl
  | cons b Y =>
   have:=congrArg List.length h2
   rw[jb,jb] at this
   simp at this
 | cons a X ih=>cases Y with
  | nil =>
   have:=congrArg List.length h2
   rw[jb,jb] at this
   simp at this
  | cons b Y =>
   rw[flatMap_cons,flatMap_cons] at h2
   have h3:=append_inj h2 (by rw[cl.len,cl.len])
   rw[Zo (hX a mem_cons_self) (hY b mem_cons_self) h9 h3.1,ih (fun x hx=>hX x (mem_cons_of_mem _ hx)) (fun x hx=>hY x (mem_cons_of_mem _ hx)) h3.2]
abbrev VV:=List Rat × List Rat
def dS (X Y:List Rat):List Rat:=List.zipWith (· - ·) X Y
def aev (p:VV):Prop:=RbL 100000 p.1∧RbL 100000 p.2∧p.1.length=p.2.length∧p.1.length≤1000
theorem abV {p q:VV}(hp:aev p)(hq:aev q)(h:[vR p.1,vR p.2]=[vR q.1,vR q.2]):p=q:=by
 simp only[List.cons.injEq,and_true] at h
 exact Prod.ext (vM hp.1 hq.1 (by omega) h.1) (vM hp.2.1 hq.2.1 (by omega) h.2)
def KB:Ψ→Option Ψ:=ctr (fun p:VV=>[vR p.1,vR p.2]) aev fun p=>[dm true (dS p.1 p.2)]
theorem Af:Ab.Spec base.P 60 KB:=Ab.Spec.bN (C:=CC LR1) (cP yu) fun args rs h=>by
 obtain⟨⟨X,Y⟩,⟨hX,hY,hl,h9⟩,rfl,rfl⟩:=cV h
 dsimp only at hX hY hl h9
 obtain⟨fr,fr1,wr,a1,a2,a3⟩:=aeh LR1 (runK (CC LR1) (X.length+1)) (X.length+1) X Y h9
 obtain⟨fr2,hp2,wr2,b1,b2,b3,b4⟩:=KC LR1 (runK (CC LR1) (X.length+1)) (X.length+1) X Y h9 hl (fun i h1 h2=>agZ rfl _ (u:=some X[i]) (v:=some Y[i]) (hX _ (getElem_mem h1)) (hY _ (getElem_mem h2)) (by omega)) X.length 0 fr1 [⟨.live,rep X.length rz⟩] wr (by omega) a3 (by simp[aP]) (by simp)
 have hL:af (CC LR1) (runK (CC LR1) (X.length+1)) (X.length+1) (.seq ZT (.block 0 (.loop psB))) ⟨fr,[⟨.live,rep X.length rz⟩],wr⟩=some (.normal,⟨fr2,hp2,wr2⟩):=by
  rw[ar a2];exact bK b1
 obtain⟨st,c1,c2,c3⟩:=ZR LR1 (runK (CC LR1) (X.length+1)) (X.length+1) fr2 hp2 wr2 _ b2 b3
 have hx:af (CC LR1) (runK (CC LR1) (X.length+1)) (X.length+1) psC ⟨entry 29 [vR X,vR Y],[],[]⟩=some (.ret,st):=by
  rw[aQ 2 a1,aeg,ar hL,c1]
 have hlz:(dS X Y).length=X.length:=by unfold dS;rw[length_zipWith];omega
 have ho:=JO hp2 0 true (dS X Y) b4
 rw[hlz] at ho
 exact⟨_,_,_,_,[dm true (dS X Y)],[0],aV PJ rfl hx c3,by rw[c2];exact ho,Wk.refl rfl,trivial⟩
theorem ye (x y:Bool)(X Y:List Rat):aJ [dm x X,dm y Y]=[vR X,vR Y]:=by simp only[aJ,AX]
theorem XL {L:Lst}(hL:bt L 60=fun a=>KB (aJ a))(run:aw)(x y:Bool)(X Y:List Rat){j k:Nat}(hX:RbL j X)(hY:RbL k Y)(hj:j≤100000)(hk:k≤100000)(hl:X.length=Y.length)(h9:X.length≤1000):az L run 60 [dm x X,dm y Y] (dm true (dS X Y)):=fun dr hp =>
 kD YJ hL run dr hp _ [vR X,vR Y] [dm true (dS X Y)] rfl (ye x y X Y) (jf (x:=(X,Y)) (fun p q hp hq h=>by rw[abV hp hq h]) ⟨fun x hx=>(hX x hx).mono hj,fun x hx=>(hY x hx).mono hk,hl,h9⟩)
theorem PL:base.F.get 61=some f61:=by kernel_rfl
theorem YL:base.shared 61=false:=by kernel_rfl
def pdC:Code:=f61.body.getD .skip
def pdB:Code:=(aA pdC).getD .skip
def V5 (X Y:List Rat):Nat→Rat
 | 0=>0
 | i+1=>V5 X Y i+X.getD i 0*Y.getD i 0
def dot (X Y:List Rat):Rat:=V5 X Y X.length
theorem Cn {k:Nat}{X Y:List Rat}(hX:RbL k X)(hY:RbL k Y)(hl:X.length=Y.length):∀ i,i≤X.length→Rb (i*(2*k+1)+1) (V5 X Y i)
 | 0,_=>Rb.zero _
 | i+1,h=>by
  have h1:=Cn hX hY hl i (by omega)
  have hx:Rb k (X.getD i 0):=by
   rw[getD_eq_getElem?_getD,List.getElem?_eq_getElem (by omega)];exact hX _ (getElem_mem _)
  have hy:Rb k (Y.getD i 0):=by
   rw[getD_eq_getElem?_getD,List.getElem?_eq_getElem (by omega)];exact hY _ (getElem_mem _)
  have e:(i+1)*(2*k+1)=i*(2*k+1)+(2*k+1):=Nat.succ_mul i _
  exact (h1.add (hx.mul hy)).mono (by rw[e];omega)
def JF (fr:Ψ)(X Y:List Rat)(i:Nat):Prop:=fr.length=25∧nth fr 1=vR Y∧nth fr 4 = .ptr 0 0∧nth fr 5 = .ptr 1 0∧nth fr 8=vR X∧nth fr 9=iv X.length∧nth fr 10=iv i
theorem aeq (L:Lst)(run:aw)(k:Nat)(fr:Ψ)(hp:Θ)(wr:Ω)(X Y:List Rat)(h:JF fr X Y X.length) :
  ∃ fr',af (CC L) run k pdB ⟨fr,hp,wr⟩=some (.exit 0,⟨fr',hp,wr⟩)∧fr'.length=25∧nth fr' 4 = .ptr 0 0∧nth fr' 5 = .ptr 1 0:=by
 obtain⟨h0,h1,h4,h5,h8,h9,h10⟩:=h
 simp only[iv] at h9 h10
 simp[pdB,pdC,f61,h0,h4,h5,h9,h10]
def ahJ:Code:=bn (blk (seq1 (bn (bn pdB))))
theorem ajv:((Region.before (iP ahJ))[8]?.getD 0).testBit 0=true:=by kernel_rfl
set_option maxHeartbeats 1000000 in
theorem ZX (L:Lst)(run:aw)(k:Nat)(fr:Ψ)(hp:Θ)(wr:Ω)(X Y:List Rat)(i:Nat)(sc p1 p2:Ψ)(z:Blk)(hi:i<X.length)(hy:i<Y.length)(h9':X.length≤1000)(hsl:sc.length=4)(hpl:p2.length=4)(hpo:bd p2=true)(g1:az L run 56 [.agg (rcs X[i]),.agg (rcs Y[i])] (.agg p1))(g2:az L run 87 [.agg sc,.agg p1] (.agg p2))(h:JF fr X Y i)(hz:aP hp 0=some z)(hb:aP hp 1=some ⟨.live,sc⟩)(hn:1<hp.length) :
  ∃ fr' hp' wr',af (CC L) run k pdB ⟨fr,hp,wr⟩=some (.normal,⟨fr',hp',wr'⟩)∧JF fr' X Y (i+1)∧aP hp' 0=some z∧aP hp' 1=some ⟨.live,p2⟩∧1<hp'.length:=by
 obtain⟨h0,h1,h4,h5,h8,h9,h10⟩:=h
 obtain⟨r,x1,x2⟩:=pO false X i hi
 obtain⟨r',y1,y2⟩:=pO false Y i hy
 have hw:=bA i (by omega)
 have hx:=al1 hp rz
 have hx1:=dH rz (rcs X[i]) (by rw[cl.len];rfl)
 have hx2:=al2 hp rz ⟨.live,rcs X[i]⟩
 have hx3:=(al3 hp rz ⟨.live,rcs X[i]⟩ 1 hn).trans hb
 have hx3':=(al3 hp rz ⟨.live,rcs X[i]⟩ 0 (by omega)).trans hz
 have hx4:=dM (rcs X[i]) (cl.len _)
 have hx4':=dM sc hsl
 have ho:=dH sc p2 (by rw[hsl,hpl])
 have hx5:aP (bZ (bZ (aL hp rz) hp.length ⟨.live,rcs X[i]⟩) 1 ⟨.live,p2⟩) 1=some ⟨.live,p2⟩:=by rw[cI hx3,if_pos rfl]
 have hx5':aP (bZ (bZ (aL hp rz) hp.length ⟨.live,rcs X[i]⟩) 1 ⟨.live,p2⟩) 0=some z:=by rw[cI hx3,if_neg (by omega),hx3']
 have hx6:1<(bZ (bZ (aL hp rz) hp.length ⟨.live,rcs X[i]⟩) 1 ⟨.live,p2⟩).length:=by rw[bC,al4];omega
 have hokx:=cl.okc X[i]
 have hlx:=cl.len X[i]
 have hn0:hp.length≠1:=by omega
 have hn1:(1=hp.length)=False:=by simp;omega
 unfold az at g1 g2
 generalize rcs X[i]=cx at *
 generalize rcs Y[i]=cy at *
 simp only[iv] at h9 h10
 have hv1:dm false X=vR X:=rfl
 have hv2:dm false Y=vR Y:=rfl
 rw[hv1] at x1
 rw[hv2] at y1
 have zR':=zRz
 have hbit:=ajv
 simp[-Nat.testBit_zero,ahJ,pdB,pdC,f61,bn,blk,iP] at hbit
 simp[-Nat.testBit_zero,hbit,JF,pdB,pdC,f61,aM,and_assoc,bm,h0,h1,h4,h5,h8,h9,h10,hi,x1,x2,y1,y2,g1,g2,ho,hx,hx1,hx2,hx3,hx4,hx4',hx5,hx5',hx6,hokx,hlx,hpo,hpl,hn1,hw,aR,sR,zR',bq,number,FP.free,cD,FP.apart]
theorem KF (L:Lst)(run:aw)(k:Nat)(X Y:List Rat)(z:Blk)(h9:X.length≤10)(hXY:X.length=Y.length){k0:Nat}(hk0:k0≤10000)(hX:RbL k0 X)(hY:RbL k0 Y)(gm:bt L 56=fun a=>jy (aJ a))(ga:bt L 87=fun a=>fW (aJ a)):∀ (n i:Nat) (fr:Ψ) (hp:Θ) (wr:Ω) (sc:Ψ) (u:Option Rat),i+n=X.length→JF fr X Y i→aP hp 0=some z→aP hp 1=some ⟨.live,sc⟩→1<hp.length→Rc sc u→vv u=V5 X Y i→(i≠0→u≠none) →
  ∃ fr' hp' wr' sc' u',ch (af (CC L) run k pdB) (n+1) ⟨fr,hp,wr⟩=some (.exit 0,⟨fr',hp',wr'⟩)∧fr'.length=25∧nth fr' 4 = .ptr 0 0∧nth fr' 5 = .ptr 1 0∧aP hp' 0=some z∧aP hp' 1=some ⟨.live,sc'⟩∧1<hp'.length∧Rc sc' u'∧vv u'=dot X Y∧(X.length≠0→u'≠none)
 | 0,i,fr,hp,wr,sc,u,hin,h,hz,hb,hn,hc,hu,hu2=>by
  have e:i=X.length:=by omega
  subst e
  obtain⟨fr',q1,q2,q3,q4⟩:=aeq L run k fr hp wr X Y h
  exact⟨fr',hp,wr,sc,u,bE q1,q2,q3,q4,hz,hb,hn,hc,hu,hu2⟩
 | n+1,i,fr,hp,wr,sc,u,hin,h,hz,hb,hn,hc,hu,hu2=>by
  have hi:i<X.length:=by omega
  have hy:i<Y.length:=by omega
  have hbx:=hX _ (getElem_mem hi)
  have hby:=hY _ (getElem_mem hy)
  have hbs:=Cn hX hY hXY i (by omega)
  have hi9:i*(2*k0+1)≤10*20001:=Nat.mul_le_mul (by omega) (by omega)
  have g1:=XE gm run (p:=.agg (rcs X[i])) (q:=.agg (rcs Y[i])) (u:=some X[i]) (v:=some Y[i]) (.inl rfl) (.inl rfl) hbx hby (by omega)
  have g2:=XG ga run (p:=.agg sc) (q:=rv (some (X[i]*Y[i]))) (u:=u) (v:=some (X[i]*Y[i])) hc.p (.inl rfl) (by rw[hu];exact hbs) (hbx.mul hby) (by omega)
  obtain⟨fr1,hp1,wr1,q1,q2,q3,q4,q5⟩:=ZX L run k fr hp wr X Y i sc _ (rcs (vv u+X[i]*Y[i])) z hi hy (by omega) hc.len (cl.len _) (cl.okc _) g1 g2 h hz hb hn
  obtain⟨fr',hp',wr',sc',u',s1,s2⟩:=KF L run k X Y z h9 hXY hk0 hX hY gm ga n (i+1) fr1 hp1 wr1 (rcs (vv u+X[i]*Y[i])) (some (vv u+X[i]*Y[i])) (by omega) q2 q3 q4 q5 (.inl rfl) (by
   show vv u+X[i]*Y[i]=V5 X Y i+X.getD i 0*Y.getD i 0
   rw[hu,getD_eq_getElem?_getD,getD_eq_getElem?_getD,List.getElem?_eq_getElem hi,List.getElem?_eq_getElem hy]
   rfl) (fun _=>nofun)
  exact⟨fr',hp',wr',sc',u',by rw[ca q1];exact s1,s2⟩
def ZY:Code:=seq1 (seq1 (ag 2 pdC))
theorem aeo:ag 2 pdC = .seq (.seq ZY (.block 0 (.loop pdB))) (ag 3 pdC):=rfl
theorem aep (L:Lst)(run:aw)(k:Nat)(X Y:List Rat) :
  ∃ fr fr' wr,ba (CC L) run k 2 pdC ⟨entry 25 [vR X,vR Y],[],[]⟩=some ⟨fr,[⟨.live,rz⟩,⟨.live,rz⟩],wr⟩∧af (CC L) run k ZY ⟨fr,[⟨.live,rz⟩,⟨.live,rz⟩],wr⟩=some (.normal,⟨fr',[⟨.live,rz⟩,⟨.live,rz⟩],wr⟩)∧JF fr' X Y 0:=by
 obtain⟨e1,e2,e3⟩:=cC 23 (vR X) (vR Y)
 generalize entry 25 [vR X,vR Y]=fr0 at *
 have hl:dy (vR X)=some X.length:=rfl
 obtain⟨fr,wr,a1,a2,a3,a4,a5,a6⟩:∃ fr wr,ba (CC L) run k 2 pdC ⟨fr0,[],[]⟩=some ⟨fr,[⟨.live,rz⟩,⟨.live,rz⟩],wr⟩∧fr.length=25∧nth fr 0=vR X∧nth fr 1=vR Y∧nth fr 4 = .ptr 0 0∧nth fr 5 = .ptr 1 0:=by
  simp[pdC,f61,ba,e1,e2,e3,and_assoc,zRz,aL]
 refine⟨fr,?_⟩
 simp only[a1]
 simp[JF,ZY,ag,pdC,f61,a2,a3,a4,a5,a6,vO,hl]
theorem ZW (L:Lst)(run:aw)(k:Nat)(fr:Ψ)(hp:Θ)(wr:Ω)(z sc:Ψ)(hsl:sc.length=4)(hso:bd sc=true)(hzl:z.length=4)(h0:fr.length=25)(h4:nth fr 4 = .ptr 0 0)(h5:nth fr 5 = .ptr 1 0)(hz:aP hp 0=some ⟨.live,z⟩)(hb:aP hp 1=some ⟨.live,sc⟩)(hn:1<hp.length) :
  ∃ st,af (CC L) run k (ag 3 pdC) ⟨fr,hp,wr⟩=some (.ret,st)∧bc TT st.fr st.hp f61.results.toList=some [.agg sc]:=by
 have ho:=dH z sc (by omega)
 have ht:=dM sc hsl
 have h6:aP (bZ hp 0 ⟨.live,sc⟩) 0=some ⟨.live,sc⟩:=by rw[cI hz,if_pos rfl]
 simp[pdC,ag,f61,h0,h4,h5,bm,hz,hb,ho,ht,hso,hsl,h6,aR,sR,bq,bc]
def KE:Ψ→Option Ψ:=ctr (fun p:VV=>[vR p.1,vR p.2]) (fun p=>RbL 10000 p.1∧RbL 10000 p.2∧p.1.length=p.2.length∧p.1.length≤10∧p.1.length≠0) fun p=>[rv (some (dot p.1 p.2))]
theorem Rc.okc {cs:Ψ}{u:Option Rat}(h:Rc cs u):bd cs=true:=by
 rcases h with rfl | ⟨rfl,rfl⟩
 ·exact pr.okc u
 ·rfl
theorem Ai:Ab.Spec base.P 61 KE:=Ab.Spec.bN (C:=CC LR1) (cP yu) fun args rs h=>by
 obtain⟨⟨X,Y⟩,⟨hX,hY,hl,h9,hne⟩,rfl,rfl⟩:=cV h
 dsimp only at hX hY hl h9 hne
 obtain⟨fr,fr1,wr,a1,a2,a3⟩:=aep LR1 (runK (CC LR1) (X.length+1)) (X.length+1) X Y
 obtain⟨fr2,hp2,wr2,sc,u,b1,b2,b3,b4,b5,b6,b7,b8,b9,b10⟩:=KF LR1 (runK (CC LR1) (X.length+1)) (X.length+1) X Y ⟨.live,rz⟩ h9 hl (Nat.le_refl 10000) hX hY rfl rfl X.length 0 fr1 [⟨.live,rz⟩,⟨.live,rz⟩] wr rz none (by omega) a3 (by simp[aP]) (by simp[aP]) (by simp) (.inr ⟨rfl,rfl⟩) rfl (fun h=>absurd rfl h)
 have hL:af (CC LR1) (runK (CC LR1) (X.length+1)) (X.length+1) (.seq ZY (.block 0 (.loop pdB))) ⟨fr,[⟨.live,rz⟩,⟨.live,rz⟩],wr⟩=some (.normal,⟨fr2,hp2,wr2⟩):=by
  rw[ar a2];exact bK b1
 obtain⟨st,c1,c3⟩:=ZW LR1 (runK (CC LR1) (X.length+1)) (X.length+1) fr2 hp2 wr2 rz sc b8.len b8.okc rfl b2 b3 b4 b5 b6 b7
 have hx:af (CC LR1) (runK (CC LR1) (X.length+1)) (X.length+1) pdC ⟨entry 25 [vR X,vR Y],[],[]⟩=some (.ret,st):=by
  rw[aQ 2 a1,aeo,ar hL,c1]
 have hu:u=some (dot X Y):=by
  cases u with
  | none=>exact absurd rfl (b10 hne)
  | some y=>exact congrArg some b9
 subst hu
 exact⟨_,_,_,_,[.agg sc],[],aV PL rfl hx c3,b8.p.Dl _,b8.p.wk,trivial⟩
theorem ag4 {L:Lst}(hL:bt L 61=fun a=>KE (aJ a))(run:aw)(x y:Bool)(X Y:List Rat){j k:Nat}(hX:RbL j X)(hY:RbL k Y)(hj:j≤10000)(hk:k≤10000)(hl:X.length=Y.length)(h9:X.length≤10)(hne:X.length≠0):az L run 61 [dm x X,dm y Y] (rv (some (dot X Y))):=fun dr hp =>
 kD YL hL run dr hp _ [vR X,vR Y] [rv (some (dot X Y))] rfl (ye x y X Y) (jf (x:=(X,Y)) (fun p q hp hq h=>by
  simp only[List.cons.injEq,and_true] at h
  rw[vM hp.1 hq.1 (by omega) h.1,vM hp.2.1 hq.2.1 (by omega) h.2]) ⟨fun x hx=>(hX x hx).mono hj,fun x hx=>(hY x hx).mono hk,hl,h9,hne⟩)
def ei (z:Int):Ψ:=[.sc (.int .i64 z)]
theorem af1:Ec 1 ei where
 len:=fun _=>rfl
 okc:=fun _=>rfl
 can:=fun _=>rfl
 idf:=fun _=>rfl
 sn:=fun _ _ _=>rfl
def aE (at':List Int):PV:=dj ei at'
theorem vP:und TT 24=some (.slice 3):=by kernel_rfl
theorem Iq (l:List Int):dy (aE l)=some l.length:=rfl
theorem yg (l:List Int):canon (aE l)=aE l:=af1.IX l
theorem KX (l:List Int)(i:Nat)(hi:i<l.length):∃ r,aU TT 24 (aE l) (.sc (.int .i64 (i:Int)))=some (.iptr r)∧r.head?=some (.sc (.int .i64 l[i])):=by
 have h:=jT af1.toEl l i hi
 refine⟨bq (l.flatMap ei) (i*1),?_,by rw[h];rfl⟩
 unfold aE dj
 simp only[aU,vP,bh,sI,hi,if_true]
theorem Jb:∀ {p q:List Int},aE p=aE q→p=q:=by
 intro p q h
 unfold aE dj at h
 simp only[PV.imm.injEq,true_and] at h
 have:∀ (p q:List Int),p.flatMap ei=q.flatMap ei→p=q:=by
  intro p
  induction p with
  | nil=>intro q h;cases q with
   | nil=>rfl
   | cons a q=>simp[ei] at h
  | cons a p ih=>intro q h;cases q with
   | nil=>simp[ei] at h
   | cons b q =>
    simp only[flatMap_cons,ei,cons_append,nil_append,List.cons.injEq,PV.sc.injEq,Value.int.injEq,true_and] at h
    rw[h.1,ih q h.2]
 exact this p q h.2
theorem zf:∀ hp:Θ,tD hp.length hp=hp
 | []=>rfl
 | a::l=>by rw[length_cons,tD,zf l]
theorem qF {L:Lst}{run:aw}{g:Nat}{args:Ψ}{r:PV}{hp:Θ}(hs:base.shared g=true)(hr:run g args hp=some ([r],hp,[]))(hi:r.cF=true)(dr:Bool):bU (CC L) run dr hp g args=some (r,hp,⟨[],[],true,true⟩):=by
 have hs':(CC L).shared g=true:=hs
 unfold bU
 rw[if_pos hs',hr]
 simp only[bM,hi,lP,ir,Bool.and_self,cond_true,ja,zf]
theorem Jt:base.F.get 103=some f103:=by kernel_rfl
theorem Rv:base.shared 103=true:=by kernel_rfl
theorem yA:base.F.get 148=some f148:=by kernel_rfl
theorem RL:base.shared 148=true:=by kernel_rfl
theorem JD:base.F.get 102=some f102:=by kernel_rfl
theorem RO:base.shared 102=true:=by kernel_rfl
theorem tu:base.F.get 50=some f50:=by kernel_rfl
theorem YN:base.shared 50=false:=by kernel_rfl
theorem ahw(g:Nat):(CC L).sorc g=none:=rfl
theorem kW {L:Lst}{k:Nat}{g:FuncId}{args:Ψ}{hp:Θ}{fn:Func}{c:Code}{st:St}{rs:Ψ}(hF:base.F.get g=some fn)(hb:fn.body=some c)(hx:af (CC L) (runK (CC L) k) k c ⟨entry fn.ntmps args,hp,[]⟩=some (.ret,st))(hr:bc TT st.fr st.hp fn.results.toList=some rs):runK (CC L) (k+1) g args hp=some (rs,st.hp,st.wr):=by
 have h1:(CC L).F g=some fn:=hF
 simp only[runK,ahw,uA,h1,hb,hx]
 rw[bf,hr]
def Cy (m:Nat)(z:Int):Bool:=decide (z<0) || decide ((m:Int)≤z)
theorem Pd (L:Lst)(run:aw)(k:Nat)(c:List (List ByteArray))(hp:Θ)(z:Int)(hb:aP hp 0=some ⟨.live,[cE c]⟩) :
  ∃ st,af (CC L) run k (f103.body.getD .skip) ⟨entry 12 [.sc (.int .i64 z),.ptr 0 0],hp,[]⟩=some (.ret,st)∧st.hp=hp∧st.wr=[]∧bc TT st.fr st.hp f103.results.toList=some [.sc (.bool (Cy c.length z))]:=by
 obtain⟨e1,e2,e3⟩:=cC 10 (.sc (.int .i64 z)) (.ptr 0 0)
 generalize entry 12 [.sc (.int .i64 z),.ptr 0 0]=fr0 at *
 have hl:=gP c
 unfold Cy
 by_cases h:z<0
 ·simp[f103,e1,e2,h,bc,undef]
 ·by_cases h2:(c.length:Int)≤z
  ·simp[f103,e1,e2,e3,h,h2,hb,hl,uCl,aCl,sCl,bq,bc]
  ·simp[f103,e1,e2,e3,h,h2,hb,hl,uCl,aCl,sCl,bq,bc]
theorem WR (L:Lst)(k:Nat)(c:List (List ByteArray))(hp:Θ)(z:Int)(hb:aP hp 0=some ⟨.live,[cE c]⟩):runK (CC L) (k+1) 103 [.sc (.int .i64 z),.ptr 0 0] hp=some ([.sc (.bool (Cy c.length z))],hp,[]):=by
 obtain⟨st,x1,x2,x3,x4⟩:=Pd L (runK (CC L) k) k c hp z hb
 have:=kW Jt rfl x1 x4
 rw[x2,x3] at this
 exact this
def ifC:Code:=f148.body.getD .skip
def ifB:Code:=(aA ifC).getD .skip
def IfF (fr:Ψ)(l:List Int)(f:PV)(i:Nat):Prop:=fr.length=19∧nth fr 0=aE l∧nth fr 1=f∧nth fr 7=iv l.length∧nth fr 8=iv i
theorem afE (L:Lst)(run:aw)(k:Nat)(fr:Ψ)(hp:Θ)(l:List Int)(f:PV)(h:IfF fr l f l.length) :
  ∃ fr',af (CC L) run k ifB ⟨fr,hp,[]⟩=some (.exit 0,⟨fr',hp,[]⟩)∧fr'.length=19:=by
 obtain⟨h0,h1,h2,h7,h8⟩:=h
 simp only[iv] at h7 h8
 simp[ifB,ifC,f148,h0,h7,h8]
theorem VC (L:Lst)(run:aw)(k:Nat)(fr:Ψ)(hp:Θ)(l:List Int)(g:Nat)(caps:Ψ)(i:Nat)(v:Bool)(hi:i<l.length)(h9:l.length<1000000)(hc:∀ dr,bU (CC L) run dr hp g ([.sc (.int .i64 l[i])]++caps)=some (.sc (.bool v),hp,⟨[],[],true,true⟩))(h:IfF fr l (.clos g caps) i) :
  ∃ fr',af (CC L) run k ifB ⟨fr,hp,[]⟩=some (bif v then .ret else .normal,⟨fr',hp,[]⟩)∧(v=true→nth fr' 4=iv i)∧(v=false→IfF fr' l (.clos g caps) (i+1)):=by
 obtain⟨h0,h1,h2,h7,h8⟩:=h
 obtain⟨r,x1,x2⟩:=KX l i hi
 have hw:=bA i (by omega)
 generalize l[i]=z at *
 simp only[iv] at h7 h8
 simp only[cons_append,nil_append] at hc
 cases v <;> simp[IfF,ifB,ifC,f148,aM,h0,h1,h2,h7,h8,hi,x1,x2,hc,hw,aI,sI]
end Go.Proofs.YtjdmodeenbdfpaaGreat
end
