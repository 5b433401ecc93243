/- Contracts of the law and of what it calls, and facts about determinants, part 28; each lemma states its conditions. -/
import Derived.Test.YtjdmodeenbdfpaaGreatW27
set_option linter.unusedSimpArgs false
set_option linter.unusedVariables false
noncomputable section
namespace Go.Proofs.YtjdmodeenbdfpaaGreat
open Go Go.Ab List Tryz
attribute [local simp] FzZ aA aC aF aG aH aZ aa ab ae af ah ai aj an ao aq au av bL bf bg iv
variable(L:Lst)(run:aw)(k:Nat)(fr:Ψ)(hp:Ω)(wr:Θ)
theorem JQ:und TT 27=some .string:=by kernel_rfl
theorem qh:base.F.get 11=some f11:=by kernel_rfl
theorem RJ:base.shared 11=false:=by kernel_rfl
theorem uJ:base.F.get 41=some f41:=by kernel_rfl
theorem MI:base.shared 41=false:=by kernel_rfl
def Bl (n:Nat):Prop:=n<4611686018427387904
theorem Bl.i {n m:Nat}(h:Bl n)(hm:m<n):m<9223372036854775807:=Nat.lt_trans hm (Nat.lt_trans h (by decide))
def pq (s:ByteArray):Bool:=decide (60<(bys s).length)
def mX (p:List ByteArray):Bool:=p.any pq || decide (8<p.length)
def uN (c:List (List ByteArray)):Bool:=(decide (8<c.length) && decide (c.length≤64)) || (decide (70<c.length) || c.any mX)
def lpC:Code:=f41.body.getD .skip
def lpB:Code:=(aA lpC).getD .skip
def LpF (fr:Ψ)(p:List ByteArray)(i:Nat):Prop:=fr.length=19∧nth fr 0=pE p∧nth fr 3=iv i
theorem air (m:Nat):((m:Int) > 60)=(60<m):=by apply propext;omega
theorem gt8 (m:Nat):((m:Int) > 8)=(8<m):=by apply propext;omega
theorem lt8 (m:Nat):((8:Int)<(m:Int))=(8<m):=by apply propext;omega
theorem aiq (m:Nat):((m:Int) > 70)=(70<m):=by apply propext;omega
theorem aii (m:Nat):((70:Int)<(m:Int))=(70<m):=by apply propext;omega
theorem aim (m:Nat):((m:Int)≤64)=(m≤64):=by apply propext;omega
theorem afm(p:List ByteArray)(h:LpF fr p p.length) :
  ∃ fr',af (CC L) run k lpB ⟨fr,[],[]⟩=some (.exit 0,⟨fr',[],[]⟩)∧LpF fr' p p.length:=by
 obtain⟨h0,h1,h3⟩:=h
 have hl:=fh p
 simp only[iv] at h3
 simp[LpF,lpB,lpC,f41,h0,h1,h3,hl,uRs]
theorem UW(p:List ByteArray)(i:Nat)(hi:i<p.length)(h9:Bl p.length)(h:LpF fr p i) :
  ∃ fr',af (CC L) run k lpB ⟨fr,[],[]⟩=some (bif pq p[i] then .ret else .normal,⟨fr',[],[]⟩)∧(pq p[i]=true→nth fr' 2 = .sc (.bool true))∧(pq p[i]=false→LpF fr' p (i+1)):=by
 obtain⟨h0,h1,h3⟩:=h
 have hl:=fh p
 obtain⟨r,x1,x2⟩:=uv uRs p i hi
 have hw:=bA i (h9.i hi)
 generalize p[i]=s at *
 have hb:pq s=decide (60<(bO s).length):=by unfold pq;rw[jr]
 rw[hb]
 simp only[iv] at h3
 by_cases hs:60<(bO s).length
 ·simp[LpF,lpB,lpC,f41,partOf,h0,h1,h3,hl,uRs,JQ,hi,x1,x2,hs,air,aX,pz,fV]
 ·simp[LpF,lpB,lpC,f41,partOf,h0,h1,h3,hl,uRs,JQ,hi,x1,x2,hs,hw,air,aX,pz,fV]
theorem KT (L:Lst)(run:aw)(k:Nat)(p:List ByteArray)(h9:Bl p.length):∀ (n i:Nat) (fr:Ψ),i+n=p.length→LpF fr p i →
  (∃ fr',(p.drop i).any pq=false∧ch (af (CC L) run k lpB) (n+1) ⟨fr,[],[]⟩=some (.exit 0,⟨fr',[],[]⟩)∧LpF fr' p p.length)∨∃ fr',(p.drop i).any pq=true∧ch (af (CC L) run k lpB) (n+1) ⟨fr,[],[]⟩=some (.ret,⟨fr',[],[]⟩)∧nth fr' 2 = .sc (.bool true)
 | 0,i,fr,hin,h=>by
  have e:i=p.length:=by omega
  subst e
  obtain⟨fr',q1,q2⟩:=afm L run k fr p h
  rw[drop_length]
  exact .inl ⟨fr',rfl,bE q1,q2⟩
 | n+1,i,fr,hin,h=>by
  have hi:i<p.length:=by omega
  obtain⟨fr1,q1,q2,q3⟩:=UW L run k fr p i hi h9 h
  rw[drop_eq_getElem_cons hi,any_cons]
  cases hv:pq p[i] with
  | true =>
   rw[hv] at q1
   exact .inr ⟨fr1,rfl,ez q1,q2 hv⟩
  | false =>
   rw[hv] at q1
   rw[Bool.false_or,ca q1]
   exact KT L run k p h9 n (i+1) fr1 (by omega) (q3 hv)
def aa0:Code:=seq1 (seq1 (ag 1 lpC))
theorem UT:ag 1 lpC = .seq (.seq aa0 (.block 0 (.loop lpB))) (ag 2 lpC):=rfl
theorem afl (L:Lst)(run:aw)(k:Nat)(p:List ByteArray):∃ fr fr',ba (CC L) run k 1 lpC ⟨entry 19 [pE p],[],[]⟩=some ⟨fr,[],[]⟩∧af (CC L) run k aa0 ⟨fr,[],[]⟩=some (.normal,⟨fr',[],[]⟩)∧LpF fr' p 0:=by
 obtain⟨e1,e2⟩:=cL 18 (pE p)
 generalize entry 19 [pE p]=fr0 at *
 obtain⟨fr,a1,a2,a3⟩:∃ fr,ba (CC L) run k 1 lpC ⟨fr0,[],[]⟩=some ⟨fr,[],[]⟩∧fr.length=19∧nth fr 0=pE p:=by
  simp[lpC,f41,ba,e1,e2]
 refine⟨fr,?_⟩
 rw[a1]
 simp[LpF,aa0,seq1,ag,lpC,f41,a2,a3]
theorem aaZ(p:List ByteArray)(h:LpF fr p p.length):∃ st,af (CC L) run k (ag 2 lpC) ⟨fr,[],[]⟩=some (.ret,st)∧bc TT st.fr st.hp f41.results.toList=some [.sc (.bool (decide (8<p.length)))]:=by
 obtain⟨h0,h1,h3⟩:=h
 have hl:=fh p
 simp[lpC,ag,f41,h0,h1,hl,uRs,gt8,bc]
theorem afk (fr:Ψ)(hp:Θ)(b:PV)(h:nth fr 2=b):bc TT fr hp f41.results.toList=some [b]:=by
 simp[f41,bc,h]
def Im:Ψ→Option Ψ:=ctr (fun p=>[pE p]) (fun p=>Bl p.length) fun p=>[.sc (.bool (mX p))]
theorem Il:Ab.Spec base.P 41 Im:=Ab.Spec.bN (C:=CC []) (cP trivial) fun args rs h=>by
 obtain⟨p,h9,rfl,rfl⟩:=cV h
 obtain⟨fr,fr1,a1,a2,a3⟩:=afl [] (runK (CC []) (p.length+1)) (p.length+1) p
 have hl:=KT [] (runK (CC []) (p.length+1)) (p.length+1) p h9 p.length 0 fr1 (by omega) a3
 rw[drop_zero] at hl
 show ∃ k rs1 hp1 wr rs2 ids,_∧_∧WkL rs2 [.sc (.bool (mX p))]
 unfold mX
 rcases hl with ⟨fr2,h0,b1,b2⟩| ⟨fr2,h0,b1,b2⟩
 ·obtain⟨st,c1,c2⟩:=aaZ [] (runK (CC []) (p.length+1)) (p.length+1) fr2 p b2
  have hL:af (CC []) (runK (CC []) (p.length+1)) (p.length+1) (.seq aa0 (.block 0 (.loop lpB))) ⟨fr,[],[]⟩=some (.normal,⟨fr2,[],[]⟩):=by
   rw[ar a2];exact bK b1
  rw[← ar hL,← UT,← aQ 1 a1] at c1
  rw[h0,Bool.false_or]
  exact⟨_,_,_,_,_,_,aV uJ rfl c1 c2,rfl,Wk.refl rfl,trivial⟩
 ·have hL:af (CC []) (runK (CC []) (p.length+1)) (p.length+1) lpC ⟨entry 19 [pE p],[],[]⟩=some (.ret,⟨fr2,[],[]⟩):=by
   rw[aQ 1 a1,UT]
   refine cj ?_
   rw[ar a2];exact da b1
  rw[h0,Bool.true_or]
  exact⟨_,_,_,_,_,_,aV uJ rfl hL (afk _ _ _ b2),rfl,Wk.refl rfl,trivial⟩
theorem acI {L:Lst}(hL:bt L 41=fun a=>Im (aJ a))(run:aw)(p:List ByteArray)(h9:Bl p.length):az L run 41 [pE p] (.sc (.bool (mX p))) :=
 fT MI (e:=fun p=>[pE p]) (f:=fun p=>[.sc (.bool (mX p))]) hL (fun x y _ _ h=>by rw[HV (p:=x) (q:=y) (by simpa using h)]) run p h9 (fun _=>rfl) (by simp only[aJ,kA])
def lgC:Code:=f11.body.getD .skip
def lgB:Code:=(aA lgC).getD .skip
def LgF (fr:Ψ)(c:List (List ByteArray))(i:Nat):Prop:=fr.length=28∧nth fr 0=cE c∧nth fr 3=iv i
theorem afw(c:List (List ByteArray))(h:LgF fr c c.length) :
  ∃ fr',af (CC L) run k lgB ⟨fr,[],[]⟩=some (.exit 0,⟨fr',[],[]⟩)∧LgF fr' c c.length:=by
 obtain⟨h0,h1,h3⟩:=h
 have hl:=gP c
 simp only[iv] at h3
 simp[LgF,lgB,lgC,f11,h0,h1,h3,hl,uCl]
theorem Vq(c:List (List ByteArray))(i:Nat)(v:Bool)(hi:i<c.length)(h9:c.length<1000)(g:az L run 41 [pE c[i]] (.sc (.bool v)))(h:LgF fr c i) :
  ∃ fr',af (CC L) run k lgB ⟨fr,[],[]⟩=some (bif v then .ret else .normal,⟨fr',[],[]⟩)∧(v=true→nth fr' 2 = .sc (.bool true))∧(v=false→LgF fr' c (i+1)):=by
 obtain⟨h0,h1,h3⟩:=h
 have hl:=gP c
 obtain⟨r,x1,x2⟩:=iJ uCl c i hi
 have hw:=bA i (by omega)
 unfold az at g
 generalize c[i]=p at *
 simp only[iv] at h3
 cases v <;> simp[LgF,lgB,lgC,f11,aM,partOf,h0,h1,h3,hl,uCl,hi,x1,x2,g,hw,aX,aPt,sPt]
theorem KW (L:Lst)(run:aw)(k:Nat)(c:List (List ByteArray))(h9:c.length<1000)(g:∀ p ∈ c,az L run 41 [pE p] (.sc (.bool (mX p)))):∀ (n i:Nat) (fr:Ψ),i+n=c.length→LgF fr c i →
  (∃ fr',(c.drop i).any mX=false∧ch (af (CC L) run k lgB) (n+1) ⟨fr,[],[]⟩=some (.exit 0,⟨fr',[],[]⟩)∧LgF fr' c c.length)∨∃ fr',(c.drop i).any mX=true∧ch (af (CC L) run k lgB) (n+1) ⟨fr,[],[]⟩=some (.ret,⟨fr',[],[]⟩)∧nth fr' 2 = .sc (.bool true)
 | 0,i,fr,hin,h=>by
  have e:i=c.length:=by omega
  subst e
  obtain⟨fr',q1,q2⟩:=afw L run k fr c h
  rw[drop_length]
  exact .inl ⟨fr',rfl,bE q1,q2⟩
 | n+1,i,fr,hin,h=>by
  have hi:i<c.length:=by omega
  obtain⟨fr1,q1,q2,q3⟩:=Vq L run k fr c i _ hi h9 (g _ (getElem_mem hi)) h
  rw[drop_eq_getElem_cons hi,any_cons]
  cases hv:mX c[i] with
  | true =>
   rw[hv] at q1 q2
   exact .inr ⟨fr1,rfl,ez q1,q2 rfl⟩
  | false =>
   rw[hv] at q1 q3
   rw[Bool.false_or,ca q1]
   exact KW L run k c h9 g n (i+1) fr1 (by omega) (q3 rfl)
def abd:Code:=seq1 (seq1 (ag 2 lgC))
theorem Vp:ag 2 lgC = .seq (.seq abd (.block 0 (.loop lgB))) (ag 3 lgC):=rfl
theorem abc(c:List (List ByteArray))(h:8<c.length∧c.length≤64∨70<c.length):∃ st,af (CC L) run k lgC ⟨entry 28 [cE c],[],[]⟩=some (.ret,st)∧bc TT st.fr st.hp f11.results.toList=some [.sc (.bool true)]:=by
 obtain⟨e1,e2⟩:=cL 27 (cE c)
 generalize entry 28 [cE c]=fr0 at *
 have hl:=gP c
 generalize c.length=m at *
 have a1:=gt8 m
 have a2:=lt8 m
 have a3:=aiq m
 have a4:=aii m
 have a5:=aim m
 by_cases b8:8<m
 ·by_cases b64:m≤64
  ·simp[lgC,f11,e1,e2,hl,uCl,a1,a5,b8,b64,undef,bc]
  ·have b70:70<m:=by omega
   simp[lgC,f11,e1,e2,hl,uCl,a1,a3,a5,b8,b64,b70,bc]
 ·omega
theorem afv (L:Lst)(run:aw)(k:Nat)(c:List (List ByteArray))(h : ¬ (8<c.length∧c.length≤64∨70<c.length)):∃ fr fr',ba (CC L) run k 2 lgC ⟨entry 28 [cE c],[],[]⟩=some ⟨fr,[],[]⟩∧af (CC L) run k abd ⟨fr,[],[]⟩=some (.normal,⟨fr',[],[]⟩)∧LgF fr' c 0:=by
 obtain⟨e1,e2⟩:=cL 27 (cE c)
 generalize entry 28 [cE c]=fr0 at *
 have hl:=gP c
 have a1:=gt8 c.length
 have a2:=lt8 c.length
 have a3:=aiq c.length
 have a4:=aii c.length
 have a5:=aim c.length
 have b70 : ¬ 70<c.length:=fun e=>h (.inr e)
 obtain⟨fr,z1,z2,z3⟩:∃ fr,ba (CC L) run k 2 lgC ⟨fr0,[],[]⟩=some ⟨fr,[],[]⟩∧fr.length=28∧nth fr 0=cE c:=by
  by_cases b8:8<c.length
  ·have b64 : ¬ c.length≤64:=fun e=>h (.inl ⟨b8,e⟩)
   simp[lgC,f11,ba,e1,e2,hl,uCl,a1,a3,a5,b8,b64,b70]
  ·simp[lgC,f11,ba,e1,e2,hl,uCl,a1,a3,b8,b70,undef]
 refine⟨fr,?_⟩
 rw[z1]
 simp[LgF,abd,seq1,ag,lgC,f11,z2,z3]
theorem abb(c:List (List ByteArray))(h:LgF fr c c.length):∃ st,af (CC L) run k (ag 3 lgC) ⟨fr,[],[]⟩=some (.ret,st)∧bc TT st.fr st.hp f11.results.toList=some [.sc (.bool false)]:=by
 obtain⟨h0,h1,h3⟩:=h
 simp[lgC,ag,f11,h0,bc]
theorem afu (fr:Ψ)(hp:Θ)(b:PV)(h:nth fr 2=b):bc TT fr hp f11.results.toList=some [b]:=by
 simp[f11,bc,h]
def LV4:Lst:=[(41,Im)]
def Io:Ψ→Option Ψ:=ctr (fun c=>[cE c]) (fun c=>∀ p ∈ c,Bl p.length) fun c=>[.sc (.bool (uN c))]
theorem OI:Ab.Spec base.P 11 Io:=Ab.Spec.bN (C:=CC LV4) (cP ⟨Il,trivial⟩) fun args rs h=>by
 obtain⟨c,h9,rfl,rfl⟩:=cV h
 show ∃ k rs1 hp1 wr rs2 ids,_∧_∧WkL rs2 [.sc (.bool (uN c))]
 by_cases hm:8<c.length∧c.length≤64∨70<c.length
 ·have e:uN c=true:=by
   unfold uN
   rcases hm with ⟨h1,h2⟩| h1
   ·rw[decide_eq_true h1,decide_eq_true h2];rfl
   ·rw[decide_eq_true h1];simp
  rw[e]
  obtain⟨st,x1,x2⟩:=abc LV4 (runK (CC LV4) 1) 1 c hm
  exact⟨_,_,_,_,_,_,aV qh rfl x1 x2,rfl,Wk.refl rfl,trivial⟩
 ·have e:uN c=c.any mX:=by
   unfold uN
   have h1:decide (70<c.length)=false:=decide_eq_false fun e=>hm (.inr e)
   have h2:(decide (8<c.length) && decide (c.length≤64))=false:=by
    by_cases h8:8<c.length
    ·rw[decide_eq_false fun e=>hm (.inl ⟨h8,e⟩),Bool.and_false]
    ·rw[decide_eq_false h8,Bool.false_and]
   rw[h1,h2,Bool.false_or,Bool.false_or]
  have hc9:c.length<1000:=by omega
  rw[e]
  obtain⟨fr,fr1,a1,a2,a3⟩:=afv LV4 (runK (CC LV4) (c.length+1)) (c.length+1) c hm
  have hl:=KW LV4 (runK (CC LV4) (c.length+1)) (c.length+1) c hc9 (fun p hp=>acI rfl _ p (h9 p hp)) c.length 0 fr1 (by omega) a3
  rw[drop_zero] at hl
  rcases hl with ⟨fr2,h0,b1,b2⟩| ⟨fr2,h0,b1,b2⟩
  ·obtain⟨st,c1,c2⟩:=abb LV4 (runK (CC LV4) (c.length+1)) (c.length+1) fr2 c b2
   have hL:af (CC LV4) (runK (CC LV4) (c.length+1)) (c.length+1) (.seq abd (.block 0 (.loop lgB))) ⟨fr,[],[]⟩=some (.normal,⟨fr2,[],[]⟩):=by
    rw[ar a2];exact bK b1
   rw[← ar hL,← Vp,← aQ 2 a1] at c1
   rw[h0]
   exact⟨_,_,_,_,_,_,aV qh rfl c1 c2,rfl,Wk.refl rfl,trivial⟩
  ·have hL:af (CC LV4) (runK (CC LV4) (c.length+1)) (c.length+1) lgC ⟨entry 28 [cE c],[],[]⟩=some (.ret,⟨fr2,[],[]⟩):=by
    rw[aQ 2 a1,Vp]
    refine cj ?_
    rw[ar a2];exact da b1
   rw[h0]
   exact⟨_,_,_,_,_,_,aV qh rfl hL (afu _ _ _ b2),rfl,Wk.refl rfl,trivial⟩
theorem ahb {L:Lst}(hL:bt L 11=fun a=>Io (aJ a))(run:aw)(c:List (List ByteArray))(h9:∀ p ∈ c,Bl p.length):az L run 11 [cE c] (.sc (.bool (uN c))) :=
 fT RJ (e:=fun c=>[cE c]) (f:=fun c=>[.sc (.bool (uN c))]) hL (fun x y _ _ h=>by rw[jV h]) run c h9 (qE · c) (oZ c)
theorem E5 {c:List (List ByteArray)}(h:uN c=false):uV c:=by
 unfold uN at h
 simp only[Bool.or_eq_false_iff,decide_eq_false_iff_not] at h
 obtain⟨h1,h2,h3⟩:=h
 refine⟨by omega,fun p hp => ?_⟩
 rw[any_eq_false] at h3
 have h4:=h3 p hp
 unfold mX at h4
 simp only[Bool.or_eq_true,not_or,any_eq_true,decide_eq_true_eq,not_exists,not_and] at h4
 refine⟨by omega,fun s hs => ?_⟩
 have:=h4.1 s hs
 unfold pq at this
 simp only[decide_eq_true_eq] at this
 omega
theorem yx:base.F.get 32=some f32:=by kernel_rfl
theorem DE:base.shared 32=false:=by kernel_rfl
def lH (s:ByteArray):Bool:=decide ((bys s).length≤12)
def kf (c:List (List ByteArray)):Bool:=c.all fun p=>p.all lH
def tnC:Code:=f32.body.getD .skip
def tnB:Code:=(aA tnC).getD .skip
def tnX:Code:=yl tnB
def tnI:Code:=(aA tnX).getD .skip
theorem QQ:tnC = .seq (seq1 tnC) (.seq (.seq (seq1 (seq1 (bn tnC))) (.block 0 (.loop tnB))) (bn (bn tnC))):=rfl
theorem QP:tnX = .seq (seq1 tnX) (.block 2 (.loop tnI)):=rfl
def TnF (fr:Ψ)(c:List (List ByteArray))(i j:Nat):Prop:=fr.length=29∧nth fr 0=cE c∧nth fr 3=iv i∧nth fr 4=iv j
theorem ais (m:Nat):((m:Int) > 12)=(12<m):=by apply propext;omega
section
variable (L:Lst) (run:aw) (k:Nat)
theorem adE (fr:Ψ)(hp:Θ)(wr:Ω)(c:List (List ByteArray))(i:Nat)(hi:i<c.length)(h:TnF fr c i c[i].length) :
  ∃ fr',af (CC L) run k tnI ⟨fr,hp,wr⟩=some (.exit 2,⟨fr',hp,wr⟩):=by
 obtain⟨h0,h00,h3,h4⟩:=h
 obtain⟨r,x1,x2⟩:=iJ uCl c i hi
 have hl:=fh c[i]
 generalize c[i]=p at *
 generalize pE p=P at *
 simp only[iv] at h3 h4
 simp[tnI,tnX,tnB,tnC,f32,yl,partOf,h0,h00,h3,h4,x1,x2,hl,uPt,aPt,sPt,aX]
theorem QO (fr:Ψ)(hp:Θ)(wr:Ω)(c:List (List ByteArray))(i j:Nat)(hi:i<c.length)(hj:j<c[i].length)(hB:Bl c[i].length)(h:TnF fr c i j) :
  ∃ fr',af (CC L) run k tnI ⟨fr,hp,wr⟩=some (bif lH c[i][j] then .normal else .ret,⟨fr',hp,wr⟩)∧(lH c[i][j]=false→nth fr' 2 = .sc (.bool false))∧(lH c[i][j]=true→TnF fr' c i (j+1)):=by
 obtain⟨h0,h00,h3,h4⟩:=h
 obtain⟨r,x1,x2⟩:=iJ uCl c i hi
 obtain⟨q,y1,y2⟩:=uv uPt c[i] j hj
 have hl:=fh c[i]
 have hw:=bA j (hB.i hj)
 generalize c[i][j]=s at *
 generalize c[i]=p at *
 have hb:lH s = !decide (12<(bO s).length):=by
  unfold lH
  rw[jr]
  by_cases h:12<(bO s).length
  ·rw[decide_eq_true h,decide_eq_false (by omega)];rfl
  ·rw[decide_eq_false h,decide_eq_true (by omega)];rfl
 rw[hb]
 generalize pE p=P at *
 simp only[iv] at h3 h4
 by_cases hs:12<(bO s).length
 ·simp[TnF,tnI,tnX,tnB,tnC,f32,yl,partOf,h0,h00,h3,h4,x1,x2,y1,y2,hl,hj,hs,ais,uPt,JQ,aPt,sPt,pz,fV,aX]
 ·simp[TnF,tnI,tnX,tnB,tnC,f32,yl,partOf,h0,h00,h3,h4,x1,x2,y1,y2,hl,hj,hs,hw,ais,uPt,JQ,aPt,sPt,pz,fV,aX]
theorem C7 (hp:Θ)(wr:Ω)(c:List (List ByteArray))(i:Nat)(hi:i<c.length)(hB:Bl c[i].length):∀ (n j:Nat) (fr:Ψ),j+n=c[i].length→TnF fr c i j →
  (∃ fr',(c[i].drop j).all lH=true∧ch (af (CC L) run k tnI) (n+1) ⟨fr,hp,wr⟩=some (.exit 2,⟨fr',hp,wr⟩))∨∃ fr',(c[i].drop j).all lH=false∧ch (af (CC L) run k tnI) (n+1) ⟨fr,hp,wr⟩=some (.ret,⟨fr',hp,wr⟩)∧nth fr' 2 = .sc (.bool false)
 | 0,j,fr,hin,h=>by
  have e:j=c[i].length:=by omega
  subst e
  obtain⟨fr',q1⟩:=adE L run k fr hp wr c i hi h
  exact .inl ⟨fr',by rw[drop_length];rfl,bE q1⟩
 | n+1,j,fr,hin,h=>by
  have hj:j<c[i].length:=by omega
  obtain⟨fr1,q1,q2,q3⟩:=QO L run k fr hp wr c i j hi hj hB h
  rw[drop_eq_getElem_cons hj,all_cons]
  cases hv:lH c[i][j] with
  | false =>
   rw[hv] at q1
   exact .inr ⟨fr1,rfl,ez q1,q2 hv⟩
  | true =>
   rw[hv] at q1
   rw[Bool.true_and,ca q1]
   exact C7 hp wr c i hi hB n (j+1) fr1 (by omega) (q3 hv)
theorem ajl (C:PV):∃ fr fr1,af (CC L) run k (seq1 tnC) ⟨entry 29 [C],[],[]⟩=some (.normal,⟨fr,[],[]⟩)∧af (CC L) run k (seq1 (seq1 (bn tnC))) ⟨fr,[],[]⟩=some (.normal,⟨fr1,[],[]⟩)∧fr1.length=29∧nth fr1 0=C∧nth fr1 3=iv 0:=by
 obtain⟨e1,e2⟩:=cL 28 C
 generalize entry 29 [C]=fr0 at *
 obtain⟨fr,a1,a2,a3⟩:∃ fr,af (CC L) run k (seq1 tnC) ⟨fr0,[],[]⟩=some (.normal,⟨fr,[],[]⟩)∧fr.length=29∧nth fr 0=C:=by
  simp[tnC,f32,seq1,e1,e2]
 refine⟨fr,?_⟩
 simp only[a1,true_and]
 simp[tnC,f32,seq1,bn,a2,a3]
theorem ajk (fr:Ψ)(hp:Θ)(wr:Ω)(h0:fr.length=29):∃ fr',af (CC L) run k (seq1 tnX) ⟨fr,hp,wr⟩=some (.normal,⟨fr',hp,wr⟩)∧nth fr' 4=iv 0:=by
 simp[tnX,tnB,tnC,f32,yl,seq1,h0]
theorem ajj (fr:Ψ)(hp:Θ)(wr:Ω)(h0:fr.length=29):∃ st,af (CC L) run k (bn (bn tnC)) ⟨fr,hp,wr⟩=some (.ret,st)∧bc TT st.fr st.hp f32.results.toList=some [.sc (.bool true)]:=by
 simp[tnC,f32,bn,h0,bc]
end
def C9:Ψ→Option Ψ:=ctr (fun c=>[cE c]) (fun c=>Bl c.length∧∀ p ∈ c,Bl p.length) fun c=>[.sc (.bool (kf c))]
theorem aiL {l:List (List ByteArray)}{p:List ByteArray}(h:p ∈ l):p.length≤(l.map List.length).foldr max 0:=by
 induction l with
 | nil=>cases h
 | cons a l ih =>
  rw[map_cons,foldr_cons]
  rcases mem_cons.1 h with rfl | h
  ·exact Nat.le_max_left _ _
  ·exact Nat.le_trans (ih h) (Nat.le_max_right _ _)
theorem Mf:Ab.Spec base.P 32 C9:=Ab.Spec.bN (C:=CC []) (cP (L:=[]) trivial) fun args rs h=>by
 obtain⟨c,⟨hc,hB⟩,rfl,rfl⟩:=cV h
 obtain⟨k,hk1,hk2⟩:∃ k,c.length<k∧∀ p ∈ c,p.length+1≤k:=⟨c.length+1+((c.map List.length).foldr max 0+1),by omega,fun p hp=>by have:=aiL hp;omega⟩
 obtain⟨fr,fr1,a1,a2,a3,a4,a5⟩:=ajl [] (runK (CC []) k) k (cE c)
 obtain⟨e,st,b1,b2⟩:=Lp.ahy (C:=CC []) (run:=runK (CC []) k) (k:=k) (l:=ajG tnB) (body:=tnX) (m:=29) (B:=tnB) rfl (by kernel_rfl) (by kernel_rfl) (by kernel_rfl) ⟨_,uCl⟩ (n:=c.length) (j0:=0) (by omega) (by unfold Bl at hc;omega) (by omega)
  (J:=fun j _ _=>(c.take j).all (fun p=>p.all lH)=true) (R:=fun st=>nth st.fr 2 = .sc (.bool false)∧kf c=false) (fr0:=fr1) (hp0:=[]) (wr0:=[]) (p:=cE c) a3 a4 (gP c) a5
  (fun _ _ _ _ _ h=>h)
  (fun i fr' hp' wr' _ hi hK hij hJ=>by
   have l0:=hK.len a3
   obtain⟨fr2,c1,c2⟩:=ajk [] (runK (CC []) k) k fr' hp' wr' l0
   have K2:=bG _ c1
   have hBi:=hB c[i] (getElem_mem hi)
   have hki:=hk2 c[i] (getElem_mem hi)
   have tk:(c.take (i+1)).all (fun p=>p.all lH)=c[i].all lH:=by
    rw[take_succ_eq_append_getElem hi,all_append,hJ];simp
   rcases C7 [] (runK (CC []) k) k hp' wr' c i hi hBi c[i].length 0 fr2 (by omega) ⟨K2.len l0,K2.at (hK.at a4),K2.at hij,c2⟩ with ⟨fr3,d1,d2⟩| ⟨fr3,d1,d2,d3⟩
   ·have hx:af (CC []) (runK (CC []) k) k (.block 1 tnX) ⟨fr',hp',wr'⟩=some (.normal,⟨fr3,hp',wr'⟩):=by
     have:af (CC []) (runK (CC []) k) k tnX ⟨fr',hp',wr'⟩=some (.normal,⟨fr3,hp',wr'⟩):=by
      rw[QP,ar c1];exact bK (bT d2 hki)
     simp only[af,this]
    exact⟨.normal,_,hx,.inl ⟨rfl,by rw[tk];simpa using d1⟩⟩
   ·have hx:af (CC []) (runK (CC []) k) k (.block 1 tnX) ⟨fr',hp',wr'⟩=some (.ret,⟨fr3,hp',wr'⟩):=by
     have:af (CC []) (runK (CC []) k) k tnX ⟨fr',hp',wr'⟩=some (.ret,⟨fr3,hp',wr'⟩):=by
      rw[QP,ar c1];exact da (bT d2 hki)
     simp only[af,this]
    refine⟨.ret,_,hx,.inr ⟨rfl,d3,?_⟩⟩
    unfold kf
    rw[all_eq_false]
    exact⟨c[i],getElem_mem hi,by rw[show c[i].all lH=false by simpa using d1];simp⟩)
  (by simp)
 rcases b2 with ⟨rfl,b2,b3⟩| ⟨rfl,b2,b3⟩
 ·obtain⟨fr4,hp4,wr4⟩:=st
  obtain⟨st',c1,c2⟩:=ajj [] (runK (CC []) k) k fr4 hp4 wr4 (b2.len a3)
  have hs:af (CC []) (runK (CC []) k) k (.seq (seq1 (seq1 (bn tnC))) (.block 0 (.loop tnB))) ⟨fr,[],[]⟩=some (.normal,⟨fr4,hp4,wr4⟩):=by rw[ar a2];exact b1
  have hx:af (CC []) (runK (CC []) k) k tnC ⟨entry 29 [cE c],[],[]⟩=some (.ret,st'):=by
   rw[QQ,ar a1,ar hs];exact c1
  have ht:kf c=true:=by rw[take_length] at b3;exact b3
  exact⟨_,_,_,_,_,_,aV yx rfl hx c2,rfl,by rw[ht];exact Wk.refl rfl,trivial⟩
 ·have hs:af (CC []) (runK (CC []) k) k (.seq (seq1 (seq1 (bn tnC))) (.block 0 (.loop tnB))) ⟨fr,[],[]⟩=some (.ret,st):=by rw[ar a2];exact b1
  have hx:af (CC []) (runK (CC []) k) k tnC ⟨entry 29 [cE c],[],[]⟩=some (.ret,st):=by
   rw[QQ,ar a1];exact cj hs
  have hr:bc TT st.fr st.hp f32.results.toList=some [.sc (.bool false)]:=by simp[f32,bc,b2]
  exact⟨_,_,_,_,_,_,aV yx rfl hx hr,rfl,by rw[b3];exact Wk.refl rfl,trivial⟩
theorem agY {L:Lst}(hL:bt L 32=fun a=>C9 (aJ a))(run:aw)(c:List (List ByteArray))(h1:Bl c.length)(h2:∀ p ∈ c,Bl p.length):az L run 32 [cE c] (.sc (.bool (kf c))) :=
 fT DE (e:=fun c=>[cE c]) (f:=fun c=>[.sc (.bool (kf c))]) hL (fun x y _ _ h=>by rw[jV h]) run c ⟨h1,h2⟩ (fun _=>rfl) (by simp only[aJ,gj])
theorem RbL.at {k:Nat}{X:List Rat}(h:RbL k X)(hk:0<k)(i:Nat):Rb k (X.getD i 0):=by
 rw[getD_eq_getElem?_getD]
 cases e:X[i]? with
 | none=>exact (Rb.zero 0).mono (by omega)
 | some x=>exact h x (mem_of_getElem? e)
def LE0:Lst:=[(167,ju),(152,fB),(97,ofF),(101,jx),(149,sT),(96,rN),(139,tr),(168,Gy),(105,ES),(150,xN),(104,pn),(95,yO),(87,fW),(55,tK),(56,jy),(106,ki),(129,Kz),(49,iZ),(108,rrF),(145,kT),(94,xC),(43,jM)]
theorem ox:dt base.P LE0:=⟨iV,jw,mw,kc,nM,og,ou,vT,rf,rp,oQ,rK,lL,sy,oK,oJ,zG,kh,qJ,od,sX,kj,trivial⟩
def ahg (o:Option (Ψ × Θ × Ω)):Bool:=match o with
 | some ([.sc (.bool b)],_,_)=>b
 | _=>false
theorem rl {C:Cfg}(hC:uK C){k:Nat}{g:FuncId}{args:Ψ}(h:ahg (Ab.runK C k g args [])=true):Ab.Spec C.P g (il args):=by
 unfold ahg at h
 split at h
 ·rename_i b hp w e
  subst h
  have h1:Ab.Spec C.P g fun a=>bif rC (eqP 8) a args then some [.sc (.bool true)] else .none :=
   Ab.Spec.aex hC (fun a ha=>rB (IE 8) ha) ⟨k,_,_,_,[.sc (.bool true)],[],e,rfl,Wk.refl rfl,trivial⟩
  exact h1.canon
 ·cases h
def mcl (l:List (List (List UInt8))):PV:=.imm l.length false (l.map fun p=>.imm p.length false (p.map fun s=>.sc (.string (mkStr s))))
def mil (l:List Int):PV:=.imm l.length false (l.map fun i=>.sc (.int .i64 i))
def mhA:Ψ:=[mcl [[[48],[48]],[[50],[48]],[[49],[48]],[[50],[50]],[[48],[50]],[[48],[48]]],mil [0,1,3,4]]
def msS:List (List (List UInt8)):=[[[48],[48]],[[50],[48]],[[48],[50]],[[50],[50]],[[49],[49]],[[53],[53]]]
def msA (q w:Int):Ψ:=[mcl msS,.sc (.int .i64 q),.sc (.int .i64 w),.sc (.int .i64 0),mil [0,1,2]]
theorem aif:Ab.Spec base.P 39 (il mhA):=rl (C:=CC LE0) (k:=100) (cP ox) (by kernel_rfl)
theorem aeO:Ab.Spec base.P 35 (il (msA 3 0)):=rl (C:=CC LE0) (k:=100) (cP ox) (by kernel_rfl)
theorem aeN:Ab.Spec base.P 35 (il (msA 4 1)):=rl (C:=CC LE0) (k:=100) (cP ox) (by kernel_rfl)
theorem aeM:Ab.Spec base.P 35 (il (msA 5 (-1))):=rl (C:=CC LE0) (k:=100) (cP ox) (by kernel_rfl)
def msF:Ψ→Option Ψ:=orF (il (msA 3 0)) (orF (il (msA 4 1)) (il (msA 5 (-1))))
theorem aeP:Ab.Spec base.P 35 msF:=Ab.Spec.or aeO (Ab.Spec.or aeN aeM)
def mdA (c:List (List (List UInt8)))(w:List UInt8)(s:Int)(l:List Int):Ψ:=[mcl c,.sc (.string (mkStr w)),.sc (.int .i64 s),mil l]
def mdT:List (List (List UInt8)):=[[[48],[48]],[[49],[48]],[[48],[49]]]
def mdD:List (List (List UInt8)):=[[[48],[48]],[[49],[49]],[[50],[50]]]
def mrA:Ψ:=[mcl mdD,.sc (.int .i64 1),mil [0,1,2]]
theorem afg:Ab.Spec base.P 36 (il (mdA mdT [49] 1 [0,1,2])):=rl (C:=CC LE0) (k:=100) (cP ox) (by kernel_rfl)
theorem afe:Ab.Spec base.P 36 (il (mdA mdT [45,49] (-1) [0,2,1])):=rl (C:=CC LE0) (k:=100) (cP ox) (by kernel_rfl)
theorem afd:Ab.Spec base.P 36 (il (mdA mdD [48] 0 [0,1,2])):=rl (C:=CC LE0) (k:=100) (cP ox) (by kernel_rfl)
def mdF:Ψ→Option Ψ:=orF (il (mdA mdT [49] 1 [0,1,2])) (orF (il (mdA mdT [45,49] (-1) [0,2,1])) (il (mdA mdD [48] 0 [0,1,2])))
theorem afh:Ab.Spec base.P 36 mdF:=Ab.Spec.or afg (Ab.Spec.or afe afd)
theorem ahQ:Ab.Spec base.P 37 (il mrA):=rl (C:=CC LE0) (k:=100) (cP ox) (by kernel_rfl)
def LE1:Lst:=[(39,il mhA),(35,msF),(36,mdF),(37,il mrA),(167,ju),(152,fB),(97,ofF),(101,jx),(149,sT),(96,rN),(139,tr),(168,Gy),(105,ES),(150,xN),(104,pn),(95,yO),(87,fW),(55,tK),(56,jy),(106,ki),(129,Kz),(49,iZ),(108,rrF),(145,kT),(94,xC),(43,jM)]
theorem agK:dt base.P LE1:=⟨aif,aeP,afh,ahQ,iV,jw,mw,kc,nM,og,ou,vT,rf,rp,oQ,rK,lL,sy,oK,oJ,zG,kh,qJ,od,sX,kj,trivial⟩
theorem acs:Ab.Spec base.P 12 (il []):=rl (C:=CC LE1) (k:=100) (cP agK) (by kernel_rfl)
theorem RE:base.shared 12=false:=by kernel_rfl
theorem acJ {L:Lst}(hL:bt L 12=fun a=>il [] (aJ a))(run:aw):az L run 12 [] (.sc (.bool true)):=fun dr hp =>
 bu RE hL run dr hp _ [.sc (.bool true)] rfl rfl rfl
def e1n (n:Nat):Ψ:=[iv n]
theorem abS (l:Ω):dj e1n l=aN l:=by
 unfold aN aE dj
 rw[length_map]
 congr 1
 induction l with
 | nil=>rfl
 | cons a l ih=>rw[map_cons,flatMap_cons,flatMap_cons,ih];rfl
theorem uA5:und TT 36=some (.array 5 5):=by kernel_rfl
theorem Cd (P:List Rat):dy (qL P)=some P.length:=by simp[qL,pE,dj,dy]
theorem xE (X:List (List Rat)):dy (qC X)=some X.length:=by simp[qC,cE,dj,dy]
theorem O4 {x:Rat}(h:Rb 1000 x):ti x 0=[qt x,iv 0]:=by unfold ti;rw[if_pos rfl,jd h];rfl
theorem acL:eB TT 27=some [.sc (.string ⟨#[]⟩)]:=by kernel_rfl
theorem aiP:fQ TT 27=some 16:=by kernel_rfl
theorem aba (s:ByteArray):eM TT 39 1 [(0,.sc (.string s))]=some (1,[.sc (.string s)]):=by
 simp[eM,uPt,fV,acL,rep,dq,cm,PV.cells?]
theorem ad6 (hp:Θ)(s:ByteArray):fk hp 1 (.imm 1 true [.sc (.string s)])=some (1,[.sc (.string s)],[]):=by simp[fk]
def jJ (hp:Θ)(p:PV)(X:List Rat):Prop:=p=dm true X∨∃ id,p = .own id 4 0 X.length true∧aP hp id=some ⟨.live,X.flatMap rcs⟩
theorem TJ (X:List Rat)(i:Nat)(hi:i<X.length):bD (bq (X.flatMap rcs) (i*4)) 4=some (rcs X[i]):=by
 have h:=jT cl.toEl X i hi
 rw[h,dc (by rw[length_append,cl.len];omega)]
 have hl:=cl.len X[i]
 generalize rcs X[i]=c at *
 rw[← hl,take_left]
def yp (hp:Θ)(mid:Nat)(p:PV)(X:List Rat):Prop:=p=dm true X∨∃ id,id≠mid∧p = .own id 4 0 X.length true∧aP hp id=some ⟨.live,X.flatMap rcs⟩
theorem yp.at {hp:Θ}{mid:Nat}{p:PV}{X:List Rat}(h:yp hp mid p X):jJ hp p X:=by
 rcases h with h | ⟨id,-,h1,h2⟩
 ·exact .inl h
 ·exact .inr ⟨id,h1,h2⟩
theorem jo {hp:Θ}{i:Nat}{b:Blk}(h:aP hp i=some b):i<hp.length:=by
 rw[cW] at h
 exact (List.getElem?_eq_some_iff.1 h).1
theorem yp.mono {hp hp':Θ}{mid:Nat}{p:PV}{X:List Rat}(h:yp hp mid p X)(hh:∀ i,i<hp.length→i≠mid→aP hp' i=aP hp i):yp hp' mid p X:=by
 rcases h with h | ⟨id,h0,h1,h2⟩
 ·exact .inl h
 ·exact .inr ⟨id,h0,h1,by rw[hh id (jo h2) h0,h2]⟩
theorem jJ.len {hp:Θ}{p:PV}{X:List Rat}(h:jJ hp p X):dy p=some X.length:=by
 rcases h with rfl | ⟨id,rfl,-⟩ <;> rfl
theorem jJ.ok {hp:Θ}{p:PV}{X:List Rat}(h:jJ hp p X):dK p=true:=by
 rcases h with rfl | ⟨id,rfl,-⟩ <;> rfl
theorem jJ.cells {hp:Θ}{p:PV}{X:List Rat}(h:jJ hp p X):p.cells?=some [p]:=by
 rcases h with rfl | ⟨id,rfl,-⟩ <;> rfl
theorem jJ.ix {hp:Θ}{p:PV}{X:List Rat}(h:jJ hp p X)(i:Nat)(hi:i<X.length):∃ a r ids,aU TT 84 p (.sc (.int .i64 (i:Int)))=some a∧aX hp a=some (r,ids)∧bD r 4=some (rcs X[i]):=by
 rcases h with rfl | ⟨id,rfl,hid⟩
 ·obtain⟨r,x1,x2⟩:=pO true X i hi
  exact⟨_,r,[],x1,rfl,x2⟩
 ·refine⟨_,_,[id],Iv id X.length i true hi,?_,TJ X i hi⟩
  simp only[aX,hid]
  rw[if_neg (by simp)]
def CW (f:Rat)(V P:List Rat):List Rat:=List.zipWith (fun x q=>x - f*q) V P
def Hex (hp hp':Θ)(w:Nat):Prop:=hp.length≤hp'.length∧∀ i,i<hp.length→i≠w→aP hp' i=aP hp i
theorem Hex.trans {a b c:Θ}{w:Nat}(h:Hex a b w)(h':Hex b c w):Hex a c w :=
 ⟨Nat.le_trans h.1 h'.1,fun i hi hn=>by rw[h'.2 i (Nat.lt_of_lt_of_le hi h.1) hn,h.2 i hi hn]⟩
theorem Hex.refl (a:Θ)(w:Nat):Hex a a w:=⟨Nat.le_refl _,fun _ _ _=>rfl⟩
theorem Hex.set {a:Θ}{w:Nat}{b b0:Blk}(h:aP a w=some b0):Hex a (bZ a w b) w:=⟨by rw[bC];exact Nat.le_refl _,fun i _ hn=>iX h hn⟩
theorem Hex.alloc {a:Θ}(w:Nat)(z:Ψ)(b:Blk):Hex a (bZ (aL a z) a.length b) w:=⟨by rw[al4];omega,fun i hi _=>al3 a z b i hi⟩
theorem jJ.mono {hp hp':Θ}{w:Nat}{p:PV}{X:List Rat}(h:jJ hp p X)(ho:Hex hp hp' w)(hw:p = .own w 4 0 X.length true→False):jJ hp' p X:=by
 rcases h with h | ⟨id,h1,h2⟩
 ·exact .inl h
 ·exact .inr ⟨id,h1,by rw[ho.2 id (jo h2) (fun e=>hw (by rw[h1,e])),h2]⟩
theorem vH {f:Rat}{V P:List Rat}(h:V.length=P.length):(CW f V P).length=P.length:=by
 unfold CW;rw[length_zipWith];omega
theorem QE {f:Rat}{V P:List Rat}{j:Nat}(h1:j<V.length)(h2:j<P.length)(h3:j<(CW f V P).length):(CW f V P)[j]=V[j] - f*P[j]:=by
 exact getElem_zipWith (f:=fun x q=>x - f*q) (h:=h3)
def Hgr (hp hp':Θ):Prop:=hp.length≤hp'.length∧∀ i,i<hp.length→aP hp' i=aP hp i
theorem Hgr.trans {a b c:Θ}(h:Hgr a b)(h':Hgr b c):Hgr a c :=
 ⟨Nat.le_trans h.1 h'.1,fun i hi=>by rw[h'.2 i (Nat.lt_of_lt_of_le hi h.1),h.2 i hi]⟩
theorem Hgr.refl (a:Θ):Hgr a a:=⟨Nat.le_refl _,fun _ _=>rfl⟩
theorem Hgr.new (a:Θ)(z:Ψ):Hgr a (aL a z):=⟨by simp[aL],fun i hi=>by rw[bz,if_neg (by omega)]⟩
theorem Hgr.hex {a b c:Θ}{w:Nat}(h:Hgr a b)(h':Hex b c w)(hw:a.length≤w):Hgr a c :=
 ⟨Nat.le_trans h.1 h'.1,fun i hi=>by rw[h'.2 i (Nat.lt_of_lt_of_le hi h.1) (by omega),h.2 i hi]⟩
theorem jJ.gr {hp hp':Θ}{p:PV}{X:List Rat}(h:jJ hp p X)(ho:Hgr hp hp'):jJ hp' p X:=by
 rcases h with h | ⟨id,h1,h2⟩
 ·exact .inl h
 ·exact .inr ⟨id,h1,by rw[ho.2 id (jo h2),h2]⟩
theorem jJ.old {hp:Θ}{p:PV}{X:List Rat}(h:jJ hp p X){w n:Nat}(hw:hp.length≤w):p ≠ .own w 4 0 n true:=by
 rcases h with rfl | ⟨id,rfl,h2⟩
 ·intro e;cases e
 ·intro e
  have:=jo h2
  simp only[PV.own.injEq] at e
  omega
def pT (s t:ByteArray):PV:=.imm 2 true [.sc (.string s),.sc (.string t)]
def d3 (A B P:List Rat):PV:=.imm 3 true [qL A,qL B,qL P]
def d4 (A B P:List Rat)(s t:ByteArray):PV:=.imm 4 true [qL A,qL B,qL P,pT s t]
def dD (A B P:List Rat):List (List Rat):=if A.length=2 then [A,B,P,[A.getD 0 0,B.getD 1 0]] else [A,B,P]
def sgS (S:List Bool):Nat→Bool
 | 0=>false
 | i+1=>if S.getD i false=true then sgS S i else !sgS S i
def exW (f:Nat→Rat)(r:List Rat)(S:List Bool):Nat→Rat
 | 0=>0
 | i+1=>exW f r S i+(if S.getD i false=true then 0 else bif sgS S i then -(r.getD i 0*f i) else r.getD i 0*f i)
def xU (n:Nat):List (List Rat)→List Bool→Rat
 | [],_=>1
 | r::rs,S=>exW (fun k=>xU n rs (S.set k true)) r S n
theorem Lm (f:Nat→Rat)(r:List Rat)(S:List Bool):∀ i,(exS f r S i).2=sgS S i∧vv (exS f r S i).1=exW f r S i
 | 0=>⟨rfl,rfl⟩
 | i+1=>by
  obtain⟨h1,h2⟩:=Lm f r S i
  unfold exS sgS exW
  by_cases hs:S.getD i false=true
  ·rw[if_pos hs,if_pos hs,if_pos hs]
   exact⟨h1,by rw[h2,Rat.add_zero]⟩
  ·rw[if_neg hs,if_neg hs,if_neg hs]
   by_cases h0:r.getD i 0=0
   ·rw[if_pos h0,h0,Rat.zero_mul]
    refine⟨by rw[h1],?_⟩
    show vv (exS f r S i).1=_
    rw[h2]
    cases sgS S i <;> simp[Rat.add_zero]
   ·rw[if_neg h0]
    refine⟨by rw[h1],?_⟩
    show vv (exS f r S i).1+_=_
    rw[h1,h2]
theorem Ll (n:Nat):∀ (rows:List (List Rat)) (S:List Bool),vv (exU n rows S)=xU n rows S
 | [],S=>rfl
 | r::rs,S=>by
  unfold exU xU
  rw[(Lm _ r S n).2]
  congr 1
  funext k
  exact Ll n rs _
def mM (M:List (List Rat)):Rat:=xU M.length M (List.replicate M.length false)
theorem Wt (M:List (List Rat)):vv (oe M)=mM M:=Ll _ _ _
theorem ac9 (r:List Rat):mM [r]=r.getD 0 0:=by
 simp[mM,xU,exW,sgS]
 try grind
theorem ac8 (r s:List Rat):mM [r,s]=r.getD 0 0*s.getD 1 0 - r.getD 1 0*s.getD 0 0:=by
 simp[mM,xU,exW,sgS]
 try grind
theorem ac7 (r s t:List Rat):mM [r,s,t]=r.getD 0 0*(s.getD 1 0*t.getD 2 0 - s.getD 2 0*t.getD 1 0) - r.getD 1 0*(s.getD 0 0*t.getD 2 0 - s.getD 2 0*t.getD 0 0)+r.getD 2 0*(s.getD 0 0*t.getD 1 0 - s.getD 1 0*t.getD 0 0):=by
 simp[mM,xU,exW,sgS]
 try grind
theorem xM {X:List Rat}{i:Nat}(h:i<X.length):X.getD i 0=X[i]:=by rw[getD_eq_getElem?_getD,List.getElem?_eq_getElem h];rfl
theorem ij {X Y:List Rat}(h:X.length=Y.length)(i:Nat):(dS X Y).getD i 0=X.getD i 0 - Y.getD i 0:=by
 by_cases hi:i<X.length
 ·rw[xM (X:=dS X Y) (by rw[qk h];exact hi),xM (X:=X) hi,xM (X:=Y) (by omega)]
  unfold dS
  rw[getElem_zipWith]
 ·have e:∀ Z:List Rat,Z.length≤i→Z.getD i 0=0:=fun Z hz=>by rw[getD_eq_getElem?_getD,getElem?_eq_none hz];rfl
  rw[e X (by omega),e Y (by omega),e _ (by rw[qk h];omega)]
  grind
theorem ail {l:Ω}(h:l.length=2):∃ a b,l=[a,b]:=by
 match l,h with
 | [a,b],_=>exact⟨a,b,rfl⟩
theorem aik {l:Ω}(h:l.length=3):∃ a b c,l=[a,b,c]:=by
 match l,h with
 | [a,b,c],_=>exact⟨a,b,c,rfl⟩
theorem aij {l:Ω}(h:l.length=4):∃ a b c d,l=[a,b,c,d]:=by
 match l,h with
 | [a,b,c,d],_=>exact⟨a,b,c,d,rfl⟩
theorem ajF {x:Nat}(h:x<3):x=0∨x=1∨x=2:=by omega
theorem x6 (N:Int)(D:Nat)(hD:0<D):Rat.divInt N D*(D:Rat)=(N:Rat):=by
 have:=Rat.divInt_mul_divInt N (D:Int) (d₁:=(D:Int)) (d₂:=1)
 have h3:(D:Rat)=Rat.divInt (D:Int) 1:=by
  have:=Rat.num_divInt_den ((D:Int):Rat)
  rw[Rat.num_intCast,Rat.den_intCast] at this
  exact this.symm
 rw[h3,this,Int.mul_one]
 have h4:Rat.divInt (N*(D:Int)) (D:Int)=Rat.divInt N 1:=by
  have hne:(D:Int)≠0:=by omega
  rw[Rat.divInt_eq_divInt_iff hne (by decide)]
  omega
 rw[h4]
 have:=Rat.num_divInt_den (N:Rat)
 rw[Rat.num_intCast,Rat.den_intCast] at this
 exact this
theorem acU (x:Rat):x*(x.den:Rat)=(x.num:Rat):=by
 conv=>lhs;rw[← Rat.num_divInt_den x]
 have h:=x6 x.num x.den x.den_pos
 rw[Rat.num_divInt_den] at h ⊢
 exact h
theorem acj {D:Nat}(hD:0<D):(D:Rat)≠0:=by
 intro e
 have h:((D:Int):Rat)=((0:Int):Rat):=e
 have:=Rat.intCast_inj.1 h
 omega
theorem abG {x:Rat}{N:Int}{D:Nat}{p:Nat}(hD:0<D)(h:x*(D:Rat)=(N:Rat))(hN:Nb p N)(hDp:Nb p D):Rb p x:=by
 have hcross:x.num*(D:Int)=N*(x.den:Int):=by
  have h1:x=Rat.divInt N D:=by
   have h2:=x6 N D hD
   have h5:(x - Rat.divInt N D)*(D:Rat)=0:=by grind
   rcases Rat.mul_eq_zero.1 h5 with h6 | h6
   ·grind
   ·exact absurd h6 (acj hD)
  have hx:=Rat.num_divInt_den x
  rw[h1] at hx ⊢
  exact (Rat.divInt_eq_divInt_iff (Cs _) (show (D:Int)≠0 by omega)).1 hx
 have hdvd:x.den ∣ D:=by
  have h1:x.den ∣ x.num.natAbs*D:=by
   have h2:(x.num*(D:Int)).natAbs=(N*(x.den:Int)).natAbs:=by rw[hcross]
   rw[Int.natAbs_mul,Int.natAbs_mul,Int.natAbs_natCast,Int.natAbs_natCast] at h2
   rw[h2]
   exact Nat.dvd_mul_left _ _
  exact Nat.Coprime.dvd_of_dvd_mul_left (Nat.Coprime.symm x.reduced) h1
 obtain⟨t,ht⟩:=hdvd
 have ht0:0<t:=by
  rcases Nat.eq_zero_or_pos t with e | e
  ·rw[e,Nat.mul_zero] at ht;omega
  ·exact e
 constructor
 ·have h1:x.num*(t:Int)=N:=by
   have h2:(x.num*(t:Int))*(x.den:Int)=N*(x.den:Int):=by
    rw[← hcross,ht]
    push_cast
    rw[Int.mul_assoc,Int.mul_comm (t:Int)]
   exact Int.eq_of_mul_eq_mul_right (Cs x) h2
  unfold Nb at *
  refine Nat.lt_of_le_of_lt ?_ hN
  rw[← h1,Int.natAbs_mul,Int.natAbs_natCast]
  exact Nat.le_mul_of_pos_right _ ht0
 ·unfold Nb at *
  rw[Int.natAbs_natCast] at *
  exact Nat.lt_of_le_of_lt (Nat.le_of_dvd hD ⟨t,ht⟩) hDp
theorem Uv (a b c d:Nat):((a*b*(c*d):Nat):Rat)=(a:Rat)*b*(c*d):=by
 rw[Rat.natCast_mul,Rat.natCast_mul,Rat.natCast_mul]
theorem aiK (a:Nat):((a:Int):Rat)=(a:Rat):=rfl
theorem Nb.sub {k:Nat}{x y:Int}(h:Nb k x)(h':Nb k y):Nb (k+1) (x - y):=by rw[Int.sub_eq_add_neg];exact h.add h'.neg
theorem Nb.mulN {j k:Nat}{a b:Nat}(h:Nb j a)(h':Nb k b):Nb (j+k) ((a*b:Nat):Int):=by rw[Int.natCast_mul];exact h.mul h'
theorem tc (a b:Rat)(c d:Nat){k:Nat}(ha:Rb k a)(hb:Rb k b)(hc:Nb k c)(hd:Nb k d):∃ M:Int,(b - a)*((a.den*b.den*(c*d):Nat):Rat)=(M:Rat)∧Nb (4*k+1) M:=by
 refine⟨b.num*a.den*(c*d) - a.num*b.den*(c*d),?_,?_⟩
 ·have h1:=acU a
  have h2:=acU b
  rw[Uv]
  simp only[Rat.intCast_sub,Rat.intCast_mul,aiK]
  grind
 ·have h1:=(hb.1.mul ha.2).mul (hc.mul hd)
  have h2:=(ha.1.mul hb.2).mul (hc.mul hd)
  exact (h1.sub h2).mono (by omega)
theorem agd (a b c d:Rat){k:Nat}(ha:Rb k a)(hb:Rb k b)(hc:Rb k c)(hd:Rb k d):∃ (D:Nat) (M1 M2 M3:Int),0<D∧Nb (4*k) D∧Nb (4*k+1) M1∧Nb (4*k+1) M2∧Nb (4*k+1) M3∧(b - a)*(D:Rat)=(M1:Rat)∧(c - a)*(D:Rat)=(M2:Rat)∧(d - a)*(D:Rat)=(M3:Rat):=by
 obtain⟨M1,m1,n1⟩:=tc a b c.den d.den ha hb hc.2 hd.2
 obtain⟨M2,m2,n2⟩:=tc a c b.den d.den ha hc hb.2 hd.2
 obtain⟨M3,m3,n3⟩:=tc a d b.den c.den ha hd hb.2 hc.2
 have e2:a.den*c.den*(b.den*d.den)=a.den*b.den*(c.den*d.den):=by ac_rfl
 have e3:a.den*d.den*(b.den*c.den)=a.den*b.den*(c.den*d.den):=by ac_rfl
 rw[e2] at m2
 rw[e3] at m3
 refine⟨a.den*b.den*(c.den*d.den),M1,M2,M3,?_,?_,n1,n2,n3,m1,m2,m3⟩
 ·exact Nat.mul_pos (Nat.mul_pos a.den_pos b.den_pos) (Nat.mul_pos c.den_pos d.den_pos)
 ·exact ((ha.2.mulN hb.2).mulN (hc.2.mulN hd.2)).mono (by omega)
theorem Cr {a0 a1 a2 b0 b1 b2 c0 c1 c2 d0 d1 d2:Rat}{k:Nat}(h1:Rb k a0)(h2:Rb k a1)(h3:Rb k a2)(h4:Rb k b0)(h5:Rb k b1)(h6:Rb k b2)(h7:Rb k c0)(h8:Rb k c1)(h9:Rb k c2)(i1:Rb k d0)(i2:Rb k d1)(i3:Rb k d2) :
  Rb (12*k+7) ((b0 - a0)*((c1 - a1)*(d2 - a2) - (c2 - a2)*(d1 - a1)) - (b1 - a1)*((c0 - a0)*(d2 - a2) - (c2 - a2)*(d0 - a0))+(b2 - a2)*((c0 - a0)*(d1 - a1) - (c1 - a1)*(d0 - a0))):=by
 obtain⟨D0,B0,C0,E0,p0,q0,r0,s0,t0,u0,v0,w0⟩:=agd a0 b0 c0 d0 h1 h4 h7 i1
 obtain⟨D1,B1,C1,E1,p1,q1,r1,s1,t1,u1,v1,w1⟩:=agd a1 b1 c1 d1 h2 h5 h8 i2
 obtain⟨D2,B2,C2,E2,p2,q2,r2,s2,t2,u2,v2,w2⟩:=agd a2 b2 c2 d2 h3 h6 h9 i3
 generalize b0 - a0=x0 at *
 generalize b1 - a1=x1 at *
 generalize b2 - a2=x2 at *
 generalize c0 - a0=y0 at *
 generalize c1 - a1=y1 at *
 generalize c2 - a2=y2 at *
 generalize d0 - a0=z0 at *
 generalize d1 - a1=z1 at *
 generalize d2 - a2=z2 at *
 refine abG (N:=B0*(C1*E2 - C2*E1) - B1*(C0*E2 - C2*E0)+B2*(C0*E1 - C1*E0)) (D:=D0*D1*D2) (Nat.mul_pos (Nat.mul_pos p0 p1) p2) ?_ ?_ ?_
 ·simp only[Rat.intCast_add,Rat.intCast_sub,Rat.intCast_mul,Rat.natCast_mul]
  rw[← u0,← v0,← w0,← u1,← v1,← w1,← u2,← v2,← w2]
  generalize (D0:Rat)=e0
  generalize (D1:Rat)=e1
  generalize (D2:Rat)=e2
  grind
 ·have f1:=r0.mul ((s1.mul t2).sub (s2.mul t1))
  have f2:=r1.mul ((s0.mul t2).sub (s2.mul t0))
  have f3:=r2.mul ((s0.mul t1).sub (s1.mul t0))
  exact ((f1.sub f2).add (f3.mono (by omega))).mono (by omega)
 ·exact ((q0.mulN q1).mulN q2).mono (by omega)
theorem toNat_ofNat (l:Ω):(l.map Int.ofNat).map Int.toNat=l:=by
 rw[map_map]
 conv=>rhs;rw[← map_id l]
 exact map_congr_left fun x _=>rfl
theorem Pc {c:List (List ByteArray)}{l:Ω}(h:chk c=0)(hl:l.length=lu c+1)(hin:∀ i ∈ l,i<c.length):pW c (l.map Int.ofNat) ((lu c+1:Nat):Int)=0:=by
 unfold pW
 rw[if_neg (fun e=>e h),if_neg (by rw[length_map,hl];omega)]
 have:(l.map Int.ofNat).any (Cy c.length)=false:=by
  rw[any_eq_false]
  intro z hz
  obtain⟨i,hi,rfl⟩:=mem_map.1 hz
  have:=hin i hi
  unfold Cy
  simp only[Bool.or_eq_true,decide_eq_true_eq,not_or]
  constructor
  ·exact Int.not_lt.2 (Int.natCast_nonneg i)
  ·show ¬ ((c.length:Int)≤(i:Int))
   omega
 rw[this];rfl
theorem O3 {c:List (List ByteArray)}{l:Ω}(h:chk c=0)(hl:l.length=lu c+1)(hin:∀ i ∈ l,i<c.length):gH c (l.map Int.ofNat)=(oe (dQ (toX c) l),0):=by
 unfold gH
 rw[if_pos (Pc h hl hin),toNat_ofNat]
theorem je {A:List Rat}{k:Nat}(hA:RbL (k+1) A)(i:Nat):Rb (k+1) (A.getD i 0):=by
 rw[getD_eq_getElem?_getD]
 cases h:A[i]? with
 | none=>exact Rb.zero k
 | some x=>exact hA x (mem_of_getElem? h)
theorem Gx (D:List (List Rat)):toX (D.map fun P=>P.map qb)=D:=by
 unfold toX
 rw[map_map]
 conv=>rhs;rw[← map_id D]
 refine map_congr_left fun P _ => ?_
 show (P.map qb).map rq=P
 rw[map_map]
 conv=>rhs;rw[← map_id P]
 exact map_congr_left fun x _=>acR x
theorem AW {m:Nat}(h1:1≤m)(h3:m≤3):∀ {D:List (List Rat)},jj m 1000 D→jH m (D.map fun P=>P.map qb)=0
 | [],_=>rfl
 | P::D,hE=>by
  have hP:=hE P mem_cons_self
  have hall:(P.map qb).all (fun s=>pB (IsV s))=true:=by
   rw[all_eq_true]
   intro s hs
   obtain⟨x,hx,rfl⟩:=mem_map.1 hs
   exact jd ⟨x,rfl,hP.2 x hx⟩
  have:pe m (P.map qb)=0:=by
   unfold pe
   rw[length_map,hP.1,if_neg (by omega),hall];rfl
  rw[map_cons,jH,if_pos this]
  exact AW h1 h3 fun Q hQ=>hE Q (mem_cons_of_mem _ hQ)
theorem rO {m:Nat}(h1:1≤m)(h3:m≤3){D:List (List Rat)}(hE:jj m 1000 D)(hn:D≠[])(h64:D.length≤64):chk (D.map fun P=>P.map qb)=0∧hdL (D.map fun P=>P.map qb)=m:=by
 have hh:hdL (D.map fun P=>P.map qb)=m:=by
  cases D with
  | nil=>exact absurd rfl hn
  | cons P D =>
   show (P.map qb).length=m
   rw[length_map];exact (hE P mem_cons_self).1
 refine⟨?_,hh⟩
 unfold chk
 rw[length_map,if_neg (by omega),hh]
 exact AW h1 h3 hE
theorem Rb.inv {k:Nat}{y:Rat}(h:Rb k y)(h0:y≠0):Rb k y⁻¹:=by
 have hn:y.num≠0:=fun e=>h0 (Rat.num_eq_zero.1 e)
 have e:y⁻¹=Rat.inv y:=rfl
 rw[e]
 unfold Rat.inv
 split
 ·refine⟨?_,?_⟩
  ·show Nb k (-(y.den:Int))
   exact h.2.neg
  ·show Nb k ((y.num.natAbs:Nat):Int)
   have:=h.1
   unfold Nb at *
   simpa using this
 ·split
  ·refine⟨h.2,?_⟩
   show Nb k ((y.num.natAbs:Nat):Int)
   have:=h.1
   unfold Nb at *
   simpa using this
  ·exact h
theorem Rb.div {j k:Nat}{x y:Rat}(h:Rb j x)(h':Rb k y)(h0:y≠0):Rb (j+k) (x / y):=by
 rw[Rat.div_def];exact h.mul (h'.inv h0)
def Rws (hp:Θ)(mid N:Nat)(g:Nat→List Rat):Prop:=∃ ps,aP hp mid=some ⟨.live,ps⟩∧N≤ps.length∧∀ t,t<N→∃ v,ps[t]?=some v∧yp hp mid v (g t)
theorem yp.gr {hp hp':Θ}{mid:Nat}{p:PV}{X:List Rat}(h:yp hp mid p X)(ho:Hgr hp hp'):yp hp' mid p X:=h.mono fun i hi _=>ho.2 i hi
theorem Rws.gr {hp hp':Θ}{mid N:Nat}{g:Nat→List Rat}(h:Rws hp mid N g)(ho:Hgr hp hp'):Rws hp' mid N g:=by
 obtain⟨ps,h1,h2,h3⟩:=h
 refine⟨ps,by rw[ho.2 _ (jo h1),h1],h2,fun t ht => ?_⟩
 obtain⟨v,h4,h5⟩:=h3 t ht
 exact⟨v,h4,h5.gr ho⟩
theorem Rws.put {hp:Θ}{mid N t:Nat}{g:Nat→List Rat}{ps:Ψ}{w:PV}{W:List Rat}(h1:aP hp mid=some ⟨.live,ps⟩)(h2:N≤ps.length)(h3:∀ s,s<N→s≠t→∃ v,ps[s]?=some v∧yp hp mid v (g s))(hw:yp hp mid w W)(ht:t<N):Rws (bZ hp mid ⟨.live,ps.set t w⟩) mid N (fun s=>if s=t then W else g s):=by
 have hk:∀ i,i<hp.length→i≠mid→aP (bZ hp mid ⟨.live,ps.set t w⟩) i=aP hp i:=fun i _ hn=>iX h1 hn
 refine⟨ps.set t w,nf h1,by rw[length_set];exact h2,fun s hs => ?_⟩
 by_cases e:s=t
 ·subst e
  refine⟨w,by rw[getElem?_set_self (by omega)],?_⟩
  dsimp only
  rw[if_pos rfl]
  exact hw.mono hk
 ·obtain⟨v,h4,h5⟩:=h3 s hs e
  refine⟨v,by rw[getElem?_set_ne (Ne.symm e),h4],?_⟩
  dsimp only
  rw[if_neg e]
  exact h5.mono hk
def DU (kk:Nat)(P V:List Rat):List Rat:=if V.getD kk 0=0 then V else CW (V.getD kk 0 / P.getD kk 0) V P
def Sl (kk r i:Nat)(P:List Rat)(g:Nat→List Rat)(t:Nat):List Rat:=if r≤t∧t<r+i then DU kk P (g t) else g t
theorem rm {X:List Rat}{i:Nat}(h:i<X.length):X.getD i 0=X[i]:=by rw[getD_eq_getElem?_getD,List.getElem?_eq_getElem h];rfl
theorem Yr {P V:List Rat}{b c:Nat}{f:Rat}(hf:Rb c f)(hP:RbL b P)(hV:RbL b V):RbL (c+2*b+1) (CW f V P):=by
 intro x hx
 unfold CW at hx
 rw[mem_iff_getElem] at hx
 obtain⟨i,hi,rfl⟩:=hx
 rw[length_zipWith] at hi
 rw[getElem_zipWith]
 exact ((hV _ (getElem_mem (by omega))).sub (hf.mul (hP _ (getElem_mem (by omega))))).mono (by omega)
theorem Zi {P V:List Rat}{kk b:Nat}(hk:kk<P.length)(hkV:kk<V.length)(h0:P.getD kk 0≠0)(hP:RbL b P)(hV:RbL b V):RbL (4*b+1) (DU kk P V):=by
 unfold DU
 split
 ·exact fun x hx=>(hV x hx).mono (by omega)
 ·have hf:Rb (b+b) (V.getD kk 0 / P.getD kk 0):=by
   refine Rb.div ?_ ?_ h0
   ·rw[rm hkV];exact hV _ (getElem_mem _)
   ·rw[rm hk];exact hP _ (getElem_mem _)
  exact fun x hx=>(Yr hf hP hV x hx).mono (by omega)
theorem Sj {P V:List Rat}{kk n:Nat}(hP:P.length=n)(hV:V.length=n):(DU kk P V).length=n:=by
 unfold DU
 split
 ·exact hV
 ·rw[vH (by omega),hP]
def cr1 (a b:List Rat):Rat:=a.getD 1 0*b.getD 2 0 - a.getD 2 0*b.getD 1 0
def cr2 (a b:List Rat):Rat:=a.getD 2 0*b.getD 0 0 - a.getD 0 0*b.getD 2 0
def cr3 (a b:List Rat):Rat:=a.getD 0 0*b.getD 1 0 - a.getD 1 0*b.getD 0 0
def tri (a b c:List Rat):Rat:=a.getD 0 0*cr1 b c+a.getD 1 0*cr2 b c+a.getD 2 0*cr3 b c
def nz (a:List Rat):Prop:=a.getD 0 0≠0∨a.getD 1 0≠0∨a.getD 2 0≠0
def OP (a b:List Rat):Prop:=cr1 a b≠0∨cr2 a b≠0∨cr3 a b≠0
def Q1 (M:List (List Rat)):Prop:=∃ a,a ∈ M∧nz a
def Q2 (M:List (List Rat)):Prop:=∃ a,a ∈ M∧∃ b,b ∈ M∧OP a b
def Q3 (M:List (List Rat)):Prop:=∃ a,a ∈ M∧∃ b,b ∈ M∧∃ c,c ∈ M∧tri a b c≠0
open Classical in
def rkM (M:List (List Rat)):Nat:=if Q3 M then 3 else if Q2 M then 2 else if Q1 M then 1 else 0
theorem Ut {a:List Rat}(h : ¬ nz a):a.getD 0 0=0∧a.getD 1 0=0∧a.getD 2 0=0:=by
 unfold nz at h
 exact⟨Classical.byContradiction fun e=>h (.inl e),Classical.byContradiction fun e=>h (.inr (.inl e)),Classical.byContradiction fun e=>h (.inr (.inr e))⟩
theorem xu {a b:List Rat}(h : ¬ OP a b):cr1 a b=0∧cr2 a b=0∧cr3 a b=0:=by
 unfold OP at h
 exact⟨Classical.byContradiction fun e=>h (.inl e),Classical.byContradiction fun e=>h (.inr (.inl e)),Classical.byContradiction fun e=>h (.inr (.inr e))⟩
theorem Q3.q2 {M:List (List Rat)}(h:Q3 M):Q2 M:=by
 obtain⟨a,ha,b,hb,c,hc,h⟩:=h
 refine Classical.byContradiction fun hn=>h ?_
 have : ¬ OP b c:=fun e=>hn ⟨b,hb,c,hc,e⟩
 obtain⟨e1,e2,e3⟩:=xu this
 unfold tri
 rw[e1,e2,e3]
 grind
theorem Q2.q1 {M:List (List Rat)}(h:Q2 M):Q1 M:=by
 obtain⟨a,ha,b,hb,h⟩:=h
 refine Classical.byContradiction fun hn => ?_
 obtain⟨e1,e2,e3⟩:=Ut (a:=a) fun e=>hn ⟨a,ha,e⟩
 unfold OP cr1 cr2 cr3 at h
 rw[e1,e2,e3] at h
 grind
theorem ad1 {M:List (List Rat)}(h:Q3 M):rkM M=3:=by unfold rkM;rw[if_pos h]
theorem R9 {M:List (List Rat)}(h : ¬ Q3 M)(h2:Q2 M):rkM M=2:=by unfold rkM;rw[if_neg h,if_pos h2]
theorem Sa {M:List (List Rat)}(h : ¬ Q2 M)(h2:Q1 M):rkM M=1:=by unfold rkM;rw[if_neg (fun e=>h e.q2),if_neg h,if_pos h2]
theorem Sb {M:List (List Rat)}(h : ¬ Q1 M):rkM M=0:=by unfold rkM;rw[if_neg (fun e=>h e.q2.q1),if_neg (fun e=>h e.q1),if_neg h]
def Red (k:Nat)(p s r:List Rat):Prop:=∀ i,r.getD i 0=s.getD i 0 - s.getD k 0 / p.getD k 0*p.getD i 0
theorem JR {p s u r t:List Rat}{k:Nat}(h:Red k p s r)(h':Red k p u t):tri p s u=tri p r t:=by
 have a0:=h 0;have a1:=h 1;have a2:=h 2
 have b0:=h' 0;have b1:=h' 1;have b2:=h' 2
 generalize s.getD k 0 / p.getD k 0=x at *
 generalize u.getD k 0 / p.getD k 0=y at *
 unfold tri cr1 cr2 cr3
 rw[a0,a1,a2,b0,b1,b2]
 grind
theorem Red.zero {p s r:List Rat}{k:Nat}(h:Red k p s r)(hp:p.getD k 0≠0):r.getD k 0=0:=by
 rw[h k,Rat.div_mul_cancel hp]
 grind
theorem QN {k:Nat}(hk:k<3){p r t:List Rat}(hr:r.getD k 0=0)(ht:t.getD k 0=0):tri p r t=p.getD k 0*(if k=0 then cr1 r t else if k=1 then cr2 r t else cr3 r t):=by
 have:k=0∨k=1∨k=2:=by omega
 rcases this with rfl | rfl | rfl <;> simp[tri,cr1,cr2,cr3] <;> grind
theorem Gv (p a b c:List Rat)(i:Nat)(hi:i<3):p.getD i 0*tri a b c=a.getD i 0*tri p b c - b.getD i 0*tri p a c+c.getD i 0*tri p a b:=by
 have:i=0∨i=1∨i=2:=by omega
 rcases this with rfl | rfl | rfl <;> simp only[tri,cr1,cr2,cr3] <;> grind
structure tA (k:Nat) (p:List Rat) (M R:List (List Rat)):Prop where
 mem:p ∈ M
 piv:p.getD k 0≠0
 fwd:∀ r,r ∈ R→∃ s,s ∈ M∧Red k p s r
 bwd:∀ s,s ∈ M→s=p∨∃ r,r ∈ R∧Red k p s r
theorem Red.mul {p s r:List Rat}{k:Nat}(h:Red k p s r)(hp:p.getD k 0≠0)(i:Nat):p.getD k 0*r.getD i 0=p.getD k 0*s.getD i 0 - s.getD k 0*p.getD i 0:=by
 have e:s.getD k 0 / p.getD k 0*p.getD k 0=s.getD k 0:=Rat.div_mul_cancel hp
 rw[h i]
 generalize s.getD k 0 / p.getD k 0=x at *
 rw[← e]
 grind
theorem UI {x y:Rat}(hx:x≠0)(h:x*y=0):y=0:=by
 rcases Rat.mul_eq_zero.1 h with e | e
 ·exact absurd e hx
 ·exact e
theorem tA.q12 {k:Nat}(hk:k<3){p:List Rat}{M R:List (List Rat)}(h:tA k p M R):Q1 R→Q2 M:=by
 rintro⟨r,hr,hn⟩
 obtain⟨s,hs,hd⟩:=h.fwd r hr
 refine Classical.byContradiction fun e => ?_
 obtain⟨e1,e2,e3⟩:=xu (a:=p) (b:=s) fun e'=>e ⟨p,h.mem,s,hs,e'⟩
 have m0:=hd.mul h.piv 0
 have m1:=hd.mul h.piv 1
 have m2:=hd.mul h.piv 2
 have hz:∀ i,p.getD k 0*r.getD i 0=0→r.getD i 0=0:=fun i=>UI h.piv
 unfold cr1 at e1
 unfold cr2 at e2
 unfold cr3 at e3
 have:k=0∨k=1∨k=2:=by omega
 have z0:r.getD 0 0=0:=hz 0 (by rw[m0];rcases this with rfl | rfl | rfl <;> grind)
 have z1:r.getD 1 0=0:=hz 1 (by rw[m1];rcases this with rfl | rfl | rfl <;> grind)
 have z2:r.getD 2 0=0:=hz 2 (by rw[m2];rcases this with rfl | rfl | rfl <;> grind)
 rcases hn with e | e | e
 ·exact e z0
 ·exact e z1
 ·exact e z2
theorem tA.q21 {k:Nat}{p:List Rat}{M R:List (List Rat)}(h:tA k p M R):Q2 M→Q1 R:=by
 rintro⟨a,ha,b,hb,hi⟩
 refine Classical.byContradiction fun e => ?_
 have key:∀ s,s ∈ M→∀ i,i<3→p.getD k 0*s.getD i 0=s.getD k 0*p.getD i 0:=fun s hs i hi=>by
  rcases h.bwd s hs with rfl | ⟨r,hr,hd⟩
  ·rfl
  ·obtain⟨z0,z1,z2⟩:=Ut (a:=r) fun e'=>e ⟨r,hr,e'⟩
   have m:=hd.mul h.piv i
   have:r.getD i 0=0:=by
    have:i=0∨i=1∨i=2:=by omega
    rcases this with rfl | rfl | rfl <;> assumption
   rw[this,Rat.mul_zero] at m
   grind
 have a0:=key a ha 0 (by omega)
 have a1:=key a ha 1 (by omega)
 have a2:=key a ha 2 (by omega)
 have b0:=key b hb 0 (by omega)
 have b1:=key b hb 1 (by omega)
 have b2:=key b hb 2 (by omega)
 have hp:=h.piv
 have g:∀ x:Rat,p.getD k 0*(p.getD k 0*x)=0→x=0:=fun x hx=>UI hp (UI hp hx)
 generalize p.getD k 0=q at *
 generalize a.getD k 0=ak at *
 generalize b.getD k 0=bk at *
 have c1:cr1 a b=0:=g _ (by
  have:q*(q*cr1 a b)=(q*a.getD 1 0)*(q*b.getD 2 0) - (q*a.getD 2 0)*(q*b.getD 1 0):=by unfold cr1;grind
  rw[this,a1,a2,b1,b2];grind)
 have c2:cr2 a b=0:=g _ (by
  have:q*(q*cr2 a b)=(q*a.getD 2 0)*(q*b.getD 0 0) - (q*a.getD 0 0)*(q*b.getD 2 0):=by unfold cr2;grind
  rw[this,a0,a2,b0,b2];grind)
 have c3:cr3 a b=0:=g _ (by
  have:q*(q*cr3 a b)=(q*a.getD 0 0)*(q*b.getD 1 0) - (q*a.getD 1 0)*(q*b.getD 0 0):=by unfold cr3;grind
  rw[this,a0,a1,b0,b1];grind)
 rcases hi with e | e | e
 ·exact e c1
 ·exact e c2
 ·exact e c3
theorem tA.q23 {k:Nat}(hk:k<3){p:List Rat}{M R:List (List Rat)}(h:tA k p M R):Q2 R→Q3 M:=by
 rintro⟨r,hr,t,ht,hi⟩
 obtain⟨s,hs,hd⟩:=h.fwd r hr
 obtain⟨u,hu,hd'⟩:=h.fwd t ht
 refine⟨p,h.mem,s,hs,u,hu,?_⟩
 have zr:=hd.zero h.piv
 have zt:=hd'.zero h.piv
 rw[JR hd hd',QN hk zr zt]
 intro e
 have e2:=UI h.piv e
 have:k=0∨k=1∨k=2:=by omega
 unfold OP cr1 cr2 cr3 at hi
 rcases this with rfl | rfl | rfl
 ·simp only[if_true,cr1] at e2
  rw[zr,zt] at hi
  grind
 ·simp only[cr2] at e2
  rw[zr,zt] at hi
  grind
 ·simp only[cr3] at e2
  rw[zr,zt] at hi
  grind
theorem tA.q32 {k:Nat}(hk:k<3){p:List Rat}{M R:List (List Rat)}(h:tA k p M R):Q3 M→Q2 R:=by
 rintro⟨a,ha,b,hb,c,hc,hi⟩
 refine Classical.byContradiction fun e=>hi ?_
 have key:∀ s,s ∈ M→∀ u,u ∈ M→tri p s u=0:=fun s hs u hu=>by
  rcases h.bwd s hs with rfl | ⟨r,hr,hd⟩
  ·unfold tri cr1 cr2 cr3;grind
  ·rcases h.bwd u hu with rfl | ⟨t,ht,hd'⟩
   ·unfold tri cr1 cr2 cr3;grind
   ·obtain⟨z1,z2,z3⟩:=xu (a:=r) (b:=t) fun e'=>e ⟨r,hr,t,ht,e'⟩
    rw[JR hd hd']
    unfold tri
    rw[z1,z2,z3]
    grind
 refine UI h.piv ?_
 rw[Gv p a b c k hk,key b hb c hc,key a ha c hc,key a ha b hb]
 grind
theorem tA.n3 {k:Nat}(hk:k<3){p:List Rat}{M R:List (List Rat)}(h:tA k p M R) : ¬ Q3 R:=by
 rintro⟨a,ha,b,hb,c,hc,hi⟩
 have z:∀ r,r ∈ R→r.getD k 0=0:=fun r hr=>by
  obtain⟨s,-,hd⟩:=h.fwd r hr
  exact hd.zero h.piv
 have za:=z a ha
 have zb:=z b hb
 have zc:=z c hc
 have:k=0∨k=1∨k=2:=by omega
 apply hi
 rcases this with rfl | rfl | rfl <;> simp[tri,cr1,cr2,cr3] <;> grind
theorem tA.rk {k:Nat}(hk:k<3){p:List Rat}{M R:List (List Rat)}(h:tA k p M R):rkM M=rkM R+1:=by
 have q1:Q1 M:=by
  refine⟨p,h.mem,?_⟩
  have:=h.piv
  have hk':k=0∨k=1∨k=2:=by omega
  rcases hk' with rfl | rfl | rfl
  ·exact .inl this
  ·exact .inr (.inl this)
  ·exact .inr (.inr this)
 have n3:=h.n3 hk
 by_cases h3:Q3 M
 ·rw[ad1 h3,R9 n3 (h.q32 hk h3)]
 ·by_cases h2:Q2 M
  ·rw[R9 h3 h2,Sa (fun e=>h3 (h.q23 hk e)) (h.q21 h2)]
  ·rw[Sa h2 q1,Sb (fun e=>h2 (h.q12 hk e))]
theorem vr {X:List Rat}{i:Nat}(h:X.length≤i):X.getD i 0=0:=by rw[getD_eq_getElem?_getD,getElem?_eq_none h];rfl
end Go.Proofs.YtjdmodeenbdfpaaGreat
end
