/- Contracts of fractions, clouds and predicates, part 26; each lemma states its conditions. -/
import Derived.Test.YtjdmodeenbdfpaaGreatW25
set_option linter.unusedSimpArgs false
set_option linter.unusedVariables false
noncomputable section
namespace Go.Proofs.YtjdmodeenbdfpaaGreat
open Go Go.Ab List Tryz
attribute [local simp] FzZ aA aC aF aG aH aM aX aZ aa ab ae af ah ai aj an and_assoc ao aq au av bc bf bg blk bn bq iv partOf seq1
theorem KZ (L:Lst)(run:aw)(k:Nat)(hp:Θ)(l:List Int)(g:Nat)(caps:Ψ)(b:Int→Bool)(h9:l.length<1000000)(hc:∀ z ∈ l,∀ dr,bU (CC L) run dr hp g ([.sc (.int .i64 z)]++caps)=some (.sc (.bool (b z)),hp,⟨[],[],true,true⟩)):∀ (n i:Nat) (fr:Ψ),i+n=l.length→IfF fr l (.clos g caps) i →
  (∃ fr',(l.drop i).any b=false∧ch (af (CC L) run k ifB) (n+1) ⟨fr,hp,[]⟩=some (.exit 0,⟨fr',hp,[]⟩)∧fr'.length=19)∨∃ fr' j,(l.drop i).any b=true∧ch (af (CC L) run k ifB) (n+1) ⟨fr,hp,[]⟩=some (.ret,⟨fr',hp,[]⟩)∧nth fr' 4=iv j
 | 0,i,fr,hin,h=>by
  have e:i=l.length:=by omega
  subst e
  obtain⟨fr',q1,q2⟩:=afE L run k fr hp l _ h
  rw[drop_length]
  exact .inl ⟨fr',rfl,bE q1,q2⟩
 | n+1,i,fr,hin,h=>by
  have hi:i<l.length:=by omega
  obtain⟨fr1,q1,q2,q3⟩:=VC L run k fr hp l g caps i _ hi h9 (hc _ (getElem_mem hi)) h
  rw[drop_eq_getElem_cons hi,any_cons]
  cases hv:b l[i] with
  | true =>
   rw[hv] at q1 q2
   exact .inr ⟨fr1,i,rfl,ez q1,q2 rfl⟩
  | false =>
   rw[hv] at q1 q3
   rw[Bool.false_or,ca q1]
   exact KZ L run k hp l g caps b h9 hc n (i+1) fr1 (by omega) (q3 rfl)
def VD:Code:=seq1 (seq1 (ag 1 ifC))
theorem VA:ag 1 ifC = .seq (.seq VD (.block 0 (.loop ifB))) (ag 2 ifC):=rfl
theorem afD (L:Lst)(run:aw)(k:Nat)(l:List Int)(f:PV)(hp:Θ):∃ fr fr',ba (CC L) run k 1 ifC ⟨entry 19 [aE l,f],hp,[]⟩=some ⟨fr,hp,[]⟩∧af (CC L) run k VD ⟨fr,hp,[]⟩=some (.normal,⟨fr',hp,[]⟩)∧IfF fr' l f 0:=by
 obtain⟨e1,e2,e3⟩:=cC 17 (aE l) f
 generalize entry 19 [aE l,f]=fr0 at *
 have hl:=Iq l
 obtain⟨fr,a1,a2,a3,a4⟩:∃ fr,ba (CC L) run k 1 ifC ⟨fr0,hp,[]⟩=some ⟨fr,hp,[]⟩∧fr.length=19∧nth fr 0=aE l∧nth fr 1=f:=by
  simp[ifC,f148,ba,e1,e2,e3]
 refine⟨fr,?_⟩
 rw[a1]
 simp[IfF,VD,ag,ifC,f148,a2,a3,a4,bL,hl,vP]
theorem abk (L:Lst)(run:aw)(k:Nat)(fr:Ψ)(hp:Θ)(h0:fr.length=19):∃ st,af (CC L) run k (ag 2 ifC) ⟨fr,hp,[]⟩=some (.ret,st)∧st.hp=hp∧st.wr=[]∧bc TT st.fr st.hp f148.results.toList=some [.sc (.int .i64 (-1))]:=by
 simp[ifC,ag,f148,h0]
theorem afB (fr:Ψ)(hp:Θ)(n:Nat)(h:nth fr 4=iv n):bc TT fr hp f148.results.toList=some [iv n]:=by
 simp[f148,h]
theorem afA (L:Lst)(k:Nat)(hp:Θ)(l:List Int)(g:Nat)(caps:Ψ)(b:Int→Bool)(hk:l.length<k)(h9:l.length<1000000)(hc:∀ z ∈ l,∀ dr,bU (CC L) (runK (CC L) k) dr hp g ([.sc (.int .i64 z)]++caps)=some (.sc (.bool (b z)),hp,⟨[],[],true,true⟩)) :
  ∃ r:Int,runK (CC L) (k+1) 148 [aE l,.clos g caps] hp=some ([.sc (.int .i64 r)],hp,[])∧decide (0≤r)=l.any b:=by
 obtain⟨fr,fr1,a1,a2,a3⟩:=afD L (runK (CC L) k) k l (.clos g caps) hp
 have hl:=KZ L (runK (CC L) k) k hp l g caps b h9 hc l.length 0 fr1 (by omega) a3
 rw[drop_zero] at hl
 rcases hl with ⟨fr2,h0,b1,b2⟩| ⟨fr2,j,h0,b1,b2⟩
 ·have:af (CC L) (runK (CC L) k) k (.seq VD (.block 0 (.loop ifB))) ⟨fr,hp,[]⟩=some (.normal,⟨fr2,hp,[]⟩):=by
   rw[ar a2];exact bK (bT b1 (by omega))
  obtain⟨st,c1,c2,c3,c4⟩:=abk L (runK (CC L) k) k fr2 hp b2
  have hx:af (CC L) (runK (CC L) k) k ifC ⟨entry 19 [aE l,.clos g caps],hp,[]⟩=some (.ret,st):=by
   rw[aQ 1 a1,VA,ar this,c1]
  have:=kW yA rfl hx c4
  rw[c2,c3] at this
  exact⟨-1,this,by rw[h0];rfl⟩
 ·have:af (CC L) (runK (CC L) k) k (.seq VD (.block 0 (.loop ifB))) ⟨fr,hp,[]⟩=some (.ret,⟨fr2,hp,[]⟩):=by
   rw[ar a2];exact da (bT b1 (by omega))
  have hx:af (CC L) (runK (CC L) k) k ifC ⟨entry 19 [aE l,.clos g caps],hp,[]⟩=some (.ret,⟨fr2,hp,[]⟩):=by
   rw[aQ 1 a1,VA,cj this]
  have:=kW yA rfl hx (afB fr2 hp j b2)
  exact⟨j,this,by rw[h0];simp⟩
theorem agm (L:Lst)(k:Nat)(hp:Θ)(l:List Int)(g:Nat)(caps:Ψ)(b:Int→Bool)(hk:l.length<k)(h9:l.length<1000000)(hc:∀ z ∈ l,∀ dr,bU (CC L) (runK (CC L) k) dr hp g ([.sc (.int .i64 z)]++caps)=some (.sc (.bool (b z)),hp,⟨[],[],true,true⟩)) :
  runK (CC L) (k+2) 102 [aE l,.clos g caps] hp=some ([.sc (.bool (l.any b))],hp,[]):=by
 obtain⟨r,h1,h2⟩:=afA L k hp l g caps b hk h9 hc
 have hcall:=qF (L:=L) RL h1 rfl
 obtain⟨e1,e2,e3⟩:=cC 7 (aE l) (.clos g caps)
 rw[← h2]
 have hx:∃ st,af (CC L) (runK (CC L) (k+1)) (k+1) (f102.body.getD .skip) ⟨entry 9 [aE l,.clos g caps],hp,[]⟩=some (.ret,st)∧st.hp=hp∧st.wr=[]∧bc TT st.fr st.hp f102.results.toList=some [.sc (.bool (decide (0≤r)))]:=by
  generalize entry 9 [aE l,.clos g caps]=fr0 at *
  simp[f102,e1,e2,e3,hcall]
 obtain⟨st,x1,x2,x3,x4⟩:=hx
 have:=kW JD rfl x1 x4
 rw[x2,x3] at this
 exact this
def pW (c:List (List ByteArray))(l:List Int)(n:Int):Nat:=if chk c≠0 then chk c else if 0≤n∧(l.length:Int)≠n then 10 else bif l.any (Cy c.length) then 4 else 0
def LR2:Lst:=(80,rP)::LR1
theorem XC:dt base.P LR2:=⟨FJ,yu⟩
theorem td (n:Nat)(p q r:PV):(entry (n+3) [p,q,r]).length=n+3∧nth (entry (n+3) [p,q,r]) 0=p∧nth (entry (n+3) [p,q,r]) 1=q∧nth (entry (n+3) [p,q,r]) 2=r:=⟨gF _ _ (by simp),rfl,rfl,rfl⟩
theorem ajy (L:Lst)(run:aw)(k:Nat)(c:List (List ByteArray))(l:List Int)(n:Int)(e:Nat)(he:e≠0)(g:az L run 80 [cE c] (iv e)) :
  ∃ st,af (CC L) run k (f50.body.getD .skip) ⟨entry 24 [cE c,aE l,.sc (.int .i64 n)],[],[]⟩=some (.ret,st)∧bc TT st.fr st.hp f50.results.toList=some [iv e]:=by
 obtain⟨e1,e2,e3,e4⟩:=td 21 (cE c) (aE l) (.sc (.int .i64 n))
 generalize entry 24 [cE c,aE l,.sc (.int .i64 n)]=fr0 at *
 unfold az at g
 have hb:((e:Int) != 0)=true:=by simp;omega
 simp only[iv] at g ⊢
 simp[f50,e1,e2,rR,g,hb,aCl,sCl,aL,aP]
theorem ajx (L:Lst)(run:aw)(k:Nat)(c:List (List ByteArray))(l:List Int)(n:Int)(hn:0≤n)(hl:(l.length:Int)≠n)(g:az L run 80 [cE c] (iv 0)) :
  ∃ st,af (CC L) run k (f50.body.getD .skip) ⟨entry 24 [cE c,aE l,.sc (.int .i64 n)],[],[]⟩=some (.ret,st)∧bc TT st.fr st.hp f50.results.toList=some [iv 10]:=by
 obtain⟨e1,e2,e3,e4⟩:=td 21 (cE c) (aE l) (.sc (.int .i64 n))
 generalize entry 24 [cE c,aE l,.sc (.int .i64 n)]=fr0 at *
 unfold az at g
 have hl1:=Iq l
 have hb:((l.length:Int) != n)=true:=by simp[hl]
 have hb2:((0:Int) != 0)=false:=rfl
 simp only[iv,Int.cast_ofNat_Int] at g ⊢
 simp[f50,e1,e2,e3,e4,bL,rR,g,hb,hl1,hn,aCl,sCl,vP,aL,aP]
theorem ajw (L:Lst)(run:aw)(k:Nat)(c:List (List ByteArray))(l:List Int)(n:Int)(hn : ¬ (0≤n∧(l.length:Int)≠n))(v:Bool)(g:az L run 80 [cE c] (iv 0))(hc:bU (CC L) run false [⟨.live,[cE c]⟩] 102 [aE l,.clos 103 [.ptr 0 0]]=some (.sc (.bool v),[⟨.live,[cE c]⟩],⟨[],[],true,true⟩)) :
  ∃ st,af (CC L) run k (f50.body.getD .skip) ⟨entry 24 [cE c,aE l,.sc (.int .i64 n)],[],[]⟩=some (.ret,st)∧bc TT st.fr st.hp f50.results.toList=some [iv (bif v then 4 else 0)]:=by
 obtain⟨e1,e2,e3,e4⟩:=td 21 (cE c) (aE l) (.sc (.int .i64 n))
 generalize entry 24 [cE c,aE l,.sc (.int .i64 n)]=fr0 at *
 unfold az at g
 have hl1:=Iq l
 simp only[iv,Int.cast_ofNat_Int] at g ⊢
 by_cases h0:0≤n
 ·have hl:(l.length:Int)=n:=Classical.byContradiction fun e=>hn ⟨h0,e⟩
  have hb:((l.length:Int) != n)=false:=by simp[hl]
  cases v <;> simp[f50,e1,e2,e3,e4,bL,rR,g,hl,hl1,h0,hc,aCl,sCl,vP,aL,aP]
 ·cases v <;> simp[f50,e1,e2,e3,e4,rR,g,h0,hc,aCl,sCl,aL,aP,undef]
abbrev CL:=List (List ByteArray) × List Int × Int
def eCL (p:CL):Ψ:=[cE p.1,aE p.2.1,.sc (.int .i64 p.2.2)]
theorem Lr {p q:CL}(h:eCL p=eCL q):p=q:=by
 simp only[eCL,List.cons.injEq,and_true,PV.sc.injEq,Value.int.injEq,true_and] at h
 exact Prod.ext (yk h.1) (Prod.ext (Jb h.2.1) h.2.2)
def TH:Ψ→Option Ψ:=ctr eCL (fun p=>Fit p.1∧p.2.1.length≤1000) fun p=>[iv (pW p.1 p.2.1 p.2.2)]
theorem NZ:Ab.Spec base.P 50 TH:=Ab.Spec.bN (C:=CC LR2) (cP XC) fun args rs h=>by
 obtain⟨⟨c,l,n⟩,⟨hF,h9⟩,rfl,rfl⟩:=cV h
 dsimp only at hF h9
 have g:=XO (L:=LR2) rfl (runK (CC LR2) (l.length+4)) c hF
 show ∃ k rs1 hp1 wr rs2 ids,runK (CC LR2) k 50 [cE c,aE l,.sc (.int .i64 n)] []=_∧_∧WkL rs2 [iv (pW c l n)]
 unfold pW
 by_cases h1:chk c≠0
 ·rw[if_pos h1]
  obtain⟨st,x1,x2⟩:=ajy LR2 (runK (CC LR2) (l.length+4)) (l.length+4) c l n (chk c) h1 g
  exact⟨_,_,_,_,_,_,aV tu rfl x1 x2,rfl,Wk.refl rfl,trivial⟩
 ·rw[if_neg h1]
  have h2:chk c=0:=Classical.byContradiction h1
  rw[h2] at g
  by_cases h3:0≤n∧(l.length:Int)≠n
  ·rw[if_pos h3]
   obtain⟨st,x1,x2⟩:=ajx LR2 (runK (CC LR2) (l.length+4)) (l.length+4) c l n h3.1 h3.2 g
   exact⟨_,_,_,_,_,_,aV tu rfl x1 x2,rfl,Wk.refl rfl,trivial⟩
  ·rw[if_neg h3]
   have hr:=agm LR2 (l.length+2) [⟨.live,[cE c]⟩] l 103 [.ptr 0 0] (Cy c.length) (by omega) (by omega) (fun z _ dr=>qF Rv (WR LR2 (l.length+1) c _ z rfl) rfl dr)
   have hc:=qF (L:=LR2) RO hr rfl false
   obtain⟨st,x1,x2⟩:=ajw LR2 (runK (CC LR2) (l.length+4)) (l.length+4) c l n h3 _ g hc
   exact⟨_,_,_,_,_,_,aV tu rfl x1 x2,rfl,Wk.refl rfl,trivial⟩
theorem ag5 {L:Lst}(hL:bt L 50=fun a=>TH (aJ a))(run:aw)(c:List (List ByteArray))(l:List Int)(n:Int)(hF:Fit c)(h9:l.length≤1000):az L run 50 [cE c,aE l,.sc (.int .i64 n)] (iv (pW c l n)) :=
 fT YN (e:=eCL) (f:=fun p=>[iv (pW p.1 p.2.1 p.2.2)]) hL (fun x y _ _ h=>by rw[Lr h]) run (c,l,n) ⟨hF,h9⟩ (fun _=>rfl) (by simp only[eCL,aJ,gj,yg];rfl)
theorem JE:base.F.get 81=some f81:=by kernel_rfl
theorem RP:base.shared 81=false:=by kernel_rfl
def lu (c:List (List ByteArray)):Nat:=if chk c=0 then hdL c else 0
def LB:Ψ→Option Ψ:=ctr (fun c=>[cE c]) Fit fun c=>[iv (lu c)]
theorem neI (e:Nat):((e:Int) != 0) = !decide (e=0):=by
 by_cases h:e=0
 ·subst h;rfl
 ·have:((e:Int) != 0)=true:=by simp;omega
  rw[this,decide_eq_false h];rfl
theorem acr (L:Lst)(run:aw)(k:Nat)(c:List (List ByteArray))(g:az L run 80 [cE c] (iv (chk c))) :
  ∃ st,af (CC L) run k (f81.body.getD .skip) ⟨entry 15 [cE c],[],[]⟩=some (.ret,st)∧bc TT st.fr st.hp f81.results.toList=some [iv (lu c)]:=by
 obtain⟨e1,e2⟩:=cL 14 (cE c)
 generalize entry 15 [cE c]=fr0 at *
 unfold az at g
 unfold lu
 have hne:=neI (chk c)
 cases hc:c with
 | nil =>
  have hl:dy (cE [])=some 0:=rfl
  rw[hc] at e2
  have h0:(if chk []=0 then hdL [] else 0)=0:=by split <;> rfl
  rw[h0]
  simp[f81,e1,e2,bL,hl,uCl,undef]
 | cons p r =>
  rw[← hc]
  obtain⟨q,x1,x2⟩:=iJ uCl c 0 (by rw[hc];simp)
  have hp:c[0]'(by rw[hc];simp)=p:=by subst hc;rfl
  rw[hp] at x2
  rw[show (((0:Nat):Int))=(0:Int) from rfl] at x1
  have hh:hdL c=p.length:=by rw[hc];rfl
  have hl:=gP c
  have hl0:((c.length:Int) == 0)=false:=by rw[beq_eq_false_iff_ne,hc];simp;omega
  have hlp:=fh p
  rw[hh]
  generalize chk c=e at *
  simp only[iv] at g ⊢
  have hcl : ¬ c.length=0:=by rw[hc];simp
  have hcn : ¬ c=[]:=by rw[hc];simp
  by_cases h:e=0
  ·subst h
   simp[f81,e1,e2,bL,hl,hl0,hlp,uCl,uPt,g,x1,x2,aPt,sPt]
  ·have hne2:((e:Int) != 0)=true:=by rw[hne,decide_eq_false h];rfl
   simp[f81,e1,e2,bL,hl,hl0,uCl,g,hne2,h]
def LR3:Lst:=(22,rP)::LR2
theorem agG:dt base.P LR3:=⟨zH,XC⟩
theorem A2:Ab.Spec base.P 81 LB:=Ab.Spec.bN (C:=CC LR3) (cP agG) fun args rs h=>by
 obtain⟨c,hF,rfl,rfl⟩:=cV h
 obtain⟨st,x1,x2⟩:=acr LR3 (runK (CC LR3) 1) 1 c (XO rfl _ c hF)
 exact⟨2,_,_,_,_,_,aV JE rfl x1 x2,rfl,Wk.refl rfl,trivial⟩
theorem XP {L:Lst}(hL:bt L 81=fun a=>LB (aJ a))(run:aw)(c:List (List ByteArray))(hF:Fit c):az L run 81 [cE c] (iv (lu c)) :=
 fT RP (e:=fun c=>[cE c]) (f:=fun c=>[iv (lu c)]) hL (fun x y _ _ h=>by rw[jV h]) run c hF (qE · c) (oZ c)
def eT (V:List Rat):Ψ:=[dm true V]
theorem aiE:El 1 eT where
 len:=fun _=>rfl
 okc:=fun _=>rfl
 idf:=fun _=>rfl
 sn:=fun _ _ _=>rfl
def mT (M:List (List Rat)):PV:=.imm M.length false (M.flatMap eT)
def qC (X:List (List Rat)):PV:=cE (X.map fun P=>P.map qb)
def aN (l:Ω):PV:=aE (l.map Int.ofNat)
def dQ (X:List (List Rat))(l:Ω):List (List Rat):=l.tail.map fun i=>dS (X.getD i []) (X.getD (l.headD 0) [])
theorem Jr:base.F.get 51=some f51:=by kernel_rfl
theorem Ru:base.shared 51=false:=by kernel_rfl
theorem vN:und TT 80=some (.slice 84):=by kernel_rfl
theorem aiM:fQ TT 84=some 24:=by kernel_rfl
theorem adl:eB TT 84=some [.sc (.slice none 0 0)]:=by kernel_rfl
def dfC:Code:=f51.body.getD .skip
def dfB:Code:=(aA dfC).getD .skip
def DfF (fr:Ψ)(X:List (List Rat))(l:Ω)(V:List Rat)(i:Nat):Prop:=fr.length=35∧nth fr 0=qC X∧nth fr 5=dm true V∧nth fr 17=aN l∧nth fr 18=iv l.length∧nth fr 19=iv i
theorem agb (L:Lst)(run:aw)(k:Nat)(fr:Ψ)(hp:Θ)(wr:Ω)(X:List (List Rat))(l:Ω)(V:List Rat)(h:DfF fr X l V l.length) :
  ∃ fr',af (CC L) run k dfB ⟨fr,hp,wr⟩=some (.exit 0,⟨fr',hp,wr⟩)∧fr'.length=35∧nth fr' 6=nth fr 6:=by
 obtain⟨h0,h1,h5,h17,h18,h19⟩:=h
 simp only[iv] at h18 h19
 simp[dfB,dfC,f51,h0,h18,h19]
theorem ac1 (v:PV)(hv:v.cells?=some [v]):eM TT 80 1 [(0,v)]=some (1,[v]):=by
 simp[eM,vN,R3,adl,rep,dq,hv,cm]
theorem Zl (hp:Θ)(v:PV):fk hp 1 (.imm 1 true [v])=some (1,[v],[]):=by simp[fk]
theorem Wq (L:Lst)(run:aw)(k:Nat)(fr:Ψ)(hp:Θ)(wr:Ω)(X:List (List Rat))(l:Ω)(V:List Rat)(i:Nat)(out:List (List Rat))(hi:i<l.length)(h9:l.length≤1000)(ho9:out.length≤1000)(hX:l[i]<X.length)(g1:az L run 59 [qL X[l[i]]] (dm true X[l[i]]))(g2:az L run 60 [dm true X[l[i]],dm true V] (dm true (dS X[l[i]] V)))(hO:eP 1 eT 0 hp out (nth fr 6))(h:DfF fr X l V i) :
  ∃ fr' hp' wr',af (CC L) run k dfB ⟨fr,hp,wr⟩=some (.normal,⟨fr',hp',wr'⟩)∧DfF fr' X l V (i+1)∧eP 1 eT 0 hp' (out++[dS X[l[i]] V]) (nth fr' 6):=by
 obtain⟨h0,h1,h5,h17,h18,h19⟩:=h
 have hi':i<(l.map Int.ofNat).length:=by simpa using hi
 obtain⟨r,x1,x2⟩:=KX (l.map Int.ofNat) i hi'
 have hX':l[i]<(X.map fun P=>P.map qb).length:=by simpa using hX
 obtain⟨r',y1,y2⟩:=iJ uCl (X.map fun P=>P.map qb) l[i] hX'
 have e1:pE (X.map fun P=>P.map qb)[l[i]]=qL X[l[i]]:=by rw[getElem_map];rfl
 rw[e1] at y2
 rw[getElem_map] at x2
 rw[show aE (l.map Int.ofNat)=aN l from rfl] at x1
 rw[show cE (X.map fun P=>P.map qb)=qC X from rfl] at y1
 obtain⟨p',hp',fp,a1,a2,-⟩:=hO.app aiE [dS X[l[i]] V] (by simp) (by simp;omega)
 have hw:=bA i (by omega)
 have hlv:=ac1 (dm true (dS X[l[i]] V)) rfl
 have hrd:=fun hp=>Zl hp (dm true (dS X[l[i]] V))
 have e2:[dS X[l[i]] V].flatMap eT=[dm true (dS X[l[i]] V)]:=rfl
 rw[e2] at a1
 unfold az at g1 g2
 have hid:(dm true (dS X[l[i]] V)).cF=true:=rfl
 have hok:=HZ true (dS X[l[i]] V)
 generalize dm true (dS X[l[i]] V)=v at *
 generalize dS X[l[i]] V=W at *
 generalize dm true X[l[i]]=u at *
 generalize qL X[l[i]]=q at *
 generalize l[i]=j at *
 rw[show Int.ofNat j=(j:Int) from rfl] at x2
 rw[show [W].length=1 from rfl] at a1
 simp only[iv] at h18 h19
 simp[DfF,dfB,dfC,f51,soft,eu,bd,h0,h1,h5,h17,h18,h19,hi,x1,x2,y1,y2,g1,g2,hlv,hrd,hid,hok,hw,aI,sI,aPt,sPt,bM,vN,R3,aiM,adl,bQ,a1,a2]
theorem Lt (L:Lst)(run:aw)(k:Nat)(X:List (List Rat))(l:Ω)(V:List Rat)(h9:l.length≤1000)(hl:∀ i ∈ l,∃ h:i<X.length,az L run 59 [qL X[i]] (dm true X[i])∧az L run 60 [dm true X[i],dm true V] (dm true (dS X[i] V))):∀ (n i:Nat) (fr:Ψ) (hp:Θ) (wr:Ω) (out:List (List Rat)),i+n=l.length→out=(l.take i).map (fun j=>dS (X.getD j []) V)→eP 1 eT 0 hp out (nth fr 6)→DfF fr X l V i →
  ∃ fr' hp' wr',ch (af (CC L) run k dfB) (n+1) ⟨fr,hp,wr⟩=some (.exit 0,⟨fr',hp',wr'⟩)∧fr'.length=35∧eP 1 eT 0 hp' (l.map (fun j=>dS (X.getD j []) V)) (nth fr' 6)
 | 0,i,fr,hp,wr,out,hin,ho,hO,h=>by
  have e:i=l.length:=by omega
  subst e
  obtain⟨fr',q1,q2,q3⟩:=agb L run k fr hp wr X l V h
  refine⟨fr',hp,wr,bE q1,q2,?_⟩
  rw[take_length] at ho
  rw[q3,← ho]
  exact hO
 | n+1,i,fr,hp,wr,out,hin,ho,hO,h=>by
  have hi:i<l.length:=by omega
  obtain⟨hX,g1,g2⟩:=hl l[i] (getElem_mem hi)
  obtain⟨fr1,hp1,wr1,q1,q2,q3⟩:=Wq L run k fr hp wr X l V i out hi h9 (by rw[ho];simp;omega) hX g1 g2 hO h
  obtain⟨fr',hp',wr',s1,s2⟩:=Lt L run k X l V h9 hl n (i+1) fr1 hp1 wr1 _ (by omega) (by
   rw[ho,take_succ_eq_append_getElem hi,map_append,map_cons,map_nil,getD_eq_getElem?_getD,List.getElem?_eq_getElem hX];rfl) q3 q2
  exact⟨fr',hp',wr',by rw[ca q1];exact s1,s2⟩
def ab4:Code:=seq1 (seq1 (ag 3 dfC))
theorem af9:ag 3 dfC = .seq (.seq ab4 (.block 0 (.loop dfB))) (ag 4 dfC):=rfl
theorem ahx (hp:Θ)(j:Nat)(l:Ω):dh TT hp 24 (aN (j::l)) (some (.sc (.int .i64 1))) none none=some (aN l):=by
 have h1:aN (j::l) = .imm (l.length+1) false (.sc (.int .i64 (Int.ofNat j))::(l.map Int.ofNat).flatMap ei):=by
  simp[aN,aE,dj,ei]
 have h2:aN l = .imm l.length false ((l.map Int.ofNat).flatMap ei):=by simp[aN,aE,dj]
 have h3:((l.map Int.ofNat).flatMap ei).length=l.length:=by
  have:=af1.toEl.length (l.map Int.ofNat)
  simpa using this
 rw[h1,h2]
 have ht:bD ((l.map Int.ofNat).flatMap ei) l.length=some ((l.map Int.ofNat).flatMap ei):=by
  rw[dc (by omega),← h3,take_length]
 simp[dh,vP,iy,sI,bnd,eD,acv,fz,h3,ht]
theorem aga (L:Lst)(run:aw)(k:Nat)(X:List (List Rat))(j:Nat)(l:Ω)(hj:j<X.length)(g:az L run 59 [qL X[j]] (dm true X[j])) :
  ∃ fr fr',ba (CC L) run k 3 dfC ⟨entry 35 [qC X,aN (j::l)],[],[]⟩=some ⟨fr,[],[]⟩∧af (CC L) run k ab4 ⟨fr,[],[]⟩=some (.normal,⟨fr',[],[]⟩)∧DfF fr' X l X[j] 0∧nth fr' 6 = .sc (.slice none 0 0):=by
 obtain⟨e1,e2,e3⟩:=cC 33 (qC X) (aN (j::l))
 generalize entry 35 [qC X,aN (j::l)]=fr0 at *
 have hX':j<(X.map fun P=>P.map qb).length:=by simpa using hj
 obtain⟨r',y1,y2⟩:=iJ uCl (X.map fun P=>P.map qb) j hX'
 obtain⟨r,x1,x2⟩:=KX ((j::l).map Int.ofNat) 0 (by simp)
 have e4:pE (X.map fun P=>P.map qb)[j]=qL X[j]:=by rw[getElem_map];rfl
 rw[e4] at y2
 rw[show ((j::l).map Int.ofNat)[0]'(by simp)=(j:Int) from rfl] at x2
 rw[show aE ((j::l).map Int.ofNat)=aN (j::l) from rfl,show (((0:Nat):Int))=(0:Int) from rfl] at x1
 rw[show cE (X.map fun P=>P.map qb)=qC X from rfl] at y1
 have hsl:=fun hp=>ahx hp j l
 have hl:dy (aN l)=some l.length:=by simp[aN,aE,dj,dy]
 unfold az at g
 obtain⟨fr,a1,a2,a3,a4,a5,a6⟩:∃ fr,ba (CC L) run k 3 dfC ⟨fr0,[],[]⟩=some ⟨fr,[],[]⟩∧fr.length=35∧nth fr 0=qC X∧nth fr 1=aN (j::l)∧nth fr 5=dm true X[j]∧nth fr 6 = .sc (.slice none 0 0):=by
  simp[dfC,f51,ba,e1,e2,e3,x1,x2,y1,y2,g,aI,sI,aPt,sPt]
 refine⟨fr,?_⟩
 rw[a1]
 obtain⟨cs,hal⟩:∃ cs,aN (j::l) = .imm (l.length+1) false cs:=⟨_,by simp only[aN,aE,dj,length_map,length_cons];rfl⟩
 rw[hal] at a4
 simp only[hal] at hsl
 simp[DfF,ab4,ag,dfC,f51,a2,a3,a4,a5,a6,bL,hsl,hl,vP]
theorem ab3 (L:Lst)(run:aw)(k:Nat)(fr:Ψ)(hp:Θ)(wr:Ω)(p:PV)(h0:fr.length=35)(h3:nth fr 6=p):∃ st,af (CC L) run k (ag 4 dfC) ⟨fr,hp,wr⟩=some (.ret,st)∧st.hp=hp∧bc TT st.fr st.hp f51.results.toList=some [p]:=by
 simp[dfC,ag,f51,h0,h3]
theorem qX {α:Type}{s:Nat}{e:α→Ψ}(he:El s e){b:Nat}{hp:Θ}{l:List α}{p:PV}(h:eP s e b hp l p):∃ rs ids,bj (snap hp bp) [p]=some (rs,ids)∧WkL rs [dj e l]:=by
 obtain⟨hb,h⟩:=h
 rcases h with ⟨rfl,rfl⟩| ⟨id,m,x,hid,_,rfl,_,h⟩
 ·exact⟨[.sc (.slice none 0 0)],[],rfl,Wk.nil false,trivial⟩
 ·have ht:bD (bq ((l++m).flatMap e) 0) (l.length*s)=some (l.flatMap e):=by
   rw[cA,drop_zero,m7 he]
  have h1:Ab.snap hp (11+1) (.own id s 0 l.length x)=some (.imm l.length x (l.flatMap e),[id]):=by
   rw[Ab.snap]
   simp only[h]
   rw[if_neg (by simp),ht]
   simp only[he.sns hp 10 l]
  refine⟨[.imm l.length x (l.flatMap e)],[id],?_,?_,trivial⟩
  ·show bj (snap hp 12) _=_
   simp only[bj,h1]
   rfl
  ·cases x
   ·exact Wk.refl (by simp[PV.cF])
   ·exact Wk.imm _ _ _
def LR4:Lst:=[(59,B4),(60,KB),(61,KE)]
theorem agF:dt base.P LR4:=⟨xc,Af,Ai,trivial⟩
abbrev XN:=List (List Rat) × Ω
def jj (m:Nat)(k:Nat)(X:List (List Rat)):Prop:=∀ P ∈ X,P.length=m∧RbL k P
theorem pJ {X Y:List (List Rat)}(h:qC X=qC Y):X=Y:=by
 have h1:=yk h
 clear h
 induction X generalizing Y with
 | nil=>cases Y with
  | nil=>rfl
  | cons b Y=>simp at h1
 | cons a X ih=>cases Y with
  | nil=>simp at h1
  | cons b Y =>
   simp only[map_cons,List.cons.injEq] at h1
   rw[BZ (X:=a) (Y:=b) (by unfold qL;rw[h1.1]),ih h1.2]
theorem agx {p q:Ω}(h:aN p=aN q):p=q:=by
 have h1:=Jb h
 exact map_inj_right (fun x y h=>Int.ofNat.inj h) |>.1 h1
def HU:Ψ→Option Ψ:=ctr (fun p:XN=>[qC p.1,aN p.2]) (fun p=>p.2≠[]∧p.2.length≤1000∧(∀ i ∈ p.2,i<p.1.length)∧∃ m,m≤1000∧jj m 1000 p.1) fun p=>[mT (dQ p.1 p.2)]
theorem HT:Ab.Spec base.P 51 HU:=Ab.Spec.bN (C:=CC LR4) (cP agF) fun args rs h=>by
 obtain⟨⟨X,l⟩,⟨hne,h9,hin,m,hm,hE⟩,rfl,rfl⟩:=cV h
 dsimp only at hne h9 hin hE
 cases l with
 | nil=>exact absurd rfl hne
 | cons j l =>
  have hj:=hin j mem_cons_self
  have hEj:=hE _ (getElem_mem hj)
  obtain⟨fr,fr1,a1,a2,a3,a4⟩:=aga LR4 (runK (CC LR4) (l.length+1)) (l.length+1) X j l hj (vz rfl _ _ hEj.2 (by omega))
  obtain⟨fr2,hp2,wr2,b1,b2,b3⟩:=Lt LR4 (runK (CC LR4) (l.length+1)) (l.length+1) X l X[j] (by simp at h9;omega) (fun i hi=>by
   have h1:=hin i (mem_cons_of_mem _ hi)
   have hEi:=hE _ (getElem_mem h1)
   exact⟨h1,vz rfl _ _ hEi.2 (by omega),XL rfl _ true true _ _ hEi.2 hEj.2 (by omega) (by omega) (by omega) (by omega)⟩) l.length 0 fr1 [] [] [] (by omega) rfl (by rw[a4];exact eP.nil (Nat.le_refl _)) a3
  have hL:af (CC LR4) (runK (CC LR4) (l.length+1)) (l.length+1) (.seq ab4 (.block 0 (.loop dfB))) ⟨fr,[],[]⟩=some (.normal,⟨fr2,hp2,wr2⟩):=by
   rw[ar a2];exact bK b1
  obtain⟨st,c1,c2,c3⟩:=ab3 LR4 (runK (CC LR4) (l.length+1)) (l.length+1) fr2 hp2 wr2 _ b2 rfl
  have hx:af (CC LR4) (runK (CC LR4) (l.length+1)) (l.length+1) dfC ⟨entry 35 [qC X,aN (j::l)],[],[]⟩=some (.ret,st):=by
   rw[aQ 3 a1,af9,ar hL,c1]
  obtain⟨rs,ids,d1,d2⟩:=qX aiE b3
  refine⟨_,_,_,_,rs,ids,aV Jr rfl hx c3,by rw[c2];exact d1,?_⟩
  have e:(dQ X (j::l))=l.map (fun i=>dS (X.getD i []) X[j]):=by
   unfold dQ
   simp only[tail_cons,headD_cons,getD_eq_getElem?_getD,List.getElem?_eq_getElem hj,Option.getD_some]
  show WkL rs [mT (dQ X (j::l))]
  rw[e]
  exact d2
theorem acG {L:Lst}(hL:bt L 51=fun a=>HU (aJ a))(run:aw)(X:List (List Rat))(l:Ω)(hne:l≠[])(h9:l.length≤1000)(hin:∀ i ∈ l,i<X.length){m k:Nat}(hm:m≤1000)(hk:k≤1000)(hE:jj m k X):az L run 51 [qC X,aN l] (mT (dQ X l)) :=
 fT Ru (e:=fun p:XN=>[qC p.1,aN p.2]) (f:=fun p=>[mT (dQ p.1 p.2)]) hL (fun x y _ _ h=>by
  simp only[List.cons.injEq,and_true] at h
  rw[Prod.ext (pJ h.1) (agx h.2)]) run (X,l) ⟨hne,h9,hin,m,hm,fun P hP=>⟨(hE P hP).1,fun x hx=>((hE P hP).2 x hx).mono hk⟩⟩ (fun _=>rfl) (by simp only[aJ,qC,aN,gj,yg])
def exS (f:Nat→Rat)(r:List Rat)(S:List Bool):Nat→Option Rat × Bool
 | 0=>(none,false)
 | i+1=>if S.getD i false=true then exS f r S i else if r.getD i 0=0 then ((exS f r S i).1, !(exS f r S i).2) else
   (some (vv (exS f r S i).1+(bif (exS f r S i).2 then -(r.getD i 0*f i) else r.getD i 0*f i)), !(exS f r S i).2)
def exU (n:Nat):List (List Rat)→List Bool→Option Rat
 | [],_=>some 1
 | r::rs,S=>(exS (fun k=>vv (exU n rs (S.set k true))) r S n).1
def exB (n k:Nat):Nat→Nat
 | 0=>1
 | d+1=>n*(k+exB n k d+1)+1
theorem IC {f:Nat→Rat}{r:List Rat}{S:List Bool}{k b:Nat}(hf:∀ i,Rb b (f i))(hr:RbL k r)(hk:0<k):∀ i,Rb (i*(k+b+1)+1) (vv (exS f r S i).1)
 | 0=>Rb.zero _
 | i+1=>by
  have ih:=IC hf hr hk i (S:=S)
  have e:(i+1)*(k+b+1)=i*(k+b+1)+(k+b+1):=Nat.succ_mul i _
  have hx:Rb k (r.getD i 0):=by
   rw[getD_eq_getElem?_getD]
   cases h:r[i]? with
   | none=>exact (Rb.zero 0).mono (by omega)
   | some x=>exact hr x (mem_of_getElem? h)
  unfold exS
  by_cases h1:S.getD i false=true
  ·rw[if_pos h1];exact ih.mono (by rw[e];omega)
  ·rw[if_neg h1]
   by_cases h2:r.getD i 0=0
   ·rw[if_pos h2];exact ih.mono (by rw[e];omega)
   ·rw[if_neg h2]
    have hm:=hx.mul (hf i)
    have ht:Rb (k+b) (bif (exS f r S i).2 then -(r.getD i 0*f i) else r.getD i 0*f i):=by
     cases (exS f r S i).2
     ·exact hm
     ·exact hm.neg
    exact (ih.add ht).mono (by rw[e];omega)
theorem Ck {n k:Nat}(hk:0<k):∀ (rows:List (List Rat)) (S:List Bool),(∀ r ∈ rows,RbL k r)→Rb (exB n k rows.length) (vv (exU n rows S))
 | [],S,_=>Rb.one 0
 | r::rs,S,h=>IC (fun i=>Ck hk rs _ fun r' hr'=>h r' (mem_cons_of_mem _ hr')) (h r mem_cons_self) hk n
theorem eE (l:Ω):aC [] l=l:=rfl
theorem jC:∀ {l w:Ω} {i:Nat},i ∈ aC l w→i ∈ l∨i ∈ w
 | [],w,i,h=>.inr h
 | a::l,w,i,h=>by
  unfold aC at h
  cases hc:w.contains a with
  | true =>
   rw[hc,cond_true] at h
   rcases jC h with h | h
   ·exact .inl (mem_cons_of_mem _ h)
   ·exact .inr h
  | false =>
   rw[hc,cond_false] at h
   rcases jC h with h | h
   ·exact .inl (mem_cons_of_mem _ h)
   ·rcases mem_cons.1 h with h | h
    ·exact .inl (h ▸ mem_cons_self)
    ·exact .inr h
theorem lS:∀ {n:Nat} {l:Ω} {i:Nat},i ∈ lP n l→i ∈ l∧i<n
 | n,a::l,i,h=>by
  unfold lP at h
  cases hc:a.blt n with
  | true =>
   rw[hc,cond_true] at h
   rcases mem_cons.1 h with h | h
   ·subst h;rw[Nat.blt_eq] at hc;exact⟨mem_cons_self,hc⟩
   ·exact⟨mem_cons_of_mem _ (lS h).1,(lS h).2⟩
  | false =>
   rw[hc,cond_false] at h
   exact⟨mem_cons_of_mem _ (lS h).1,(lS h).2⟩
theorem vF {hp:Θ}{n:Nat} : ∀ {l:Ω},(∀ i ∈ l,∀ b,aP hp i=some b→eF n b.cs=true)→ir hp n l=true
 | [],_=>rfl
 | a::l,h=>by
  unfold ir
  rw[vF fun i hi=>h i (mem_cons_of_mem _ hi),Bool.and_true]
  cases e:aP hp a with
  | none=>rfl
  | some b=>exact h a mem_cons_self b e
theorem QS {hp hp':Θ}(hl:hp.length≤hp'.length)(h:∀ i,i<hp.length→aP hp' i=aP hp i):tD hp.length hp'=hp:=by
 rw[qw]
 refine ext_getElem? fun i => ?_
 by_cases hi:i<hp.length
 ·rw[getElem?_take_of_lt hi,← cW,← cW,h i hi]
 ·rw[getElem?_eq_none (by simp;omega),getElem?_eq_none (by omega)]
theorem DF {L:Lst}{run:aw}{g:Nat}{args:Ψ}{r:PV}{hp hp':Θ}{w:Ω}(hs:base.shared g=true)(hr:run g args hp=some ([r],hp',w))(hi:r.cF=true)(hl:hp.length≤hp'.length)(ho:∀ i,i<hp.length→aP hp' i=aP hp i)(hw:∀ i ∈ lP hp.length w,∀ b,aP hp' i=some b→eF hp.length b.cs=true)(dr:Bool):bU (CC L) run dr hp g args=some (r,hp,⟨[],lP hp.length w,true,true⟩):=by
 have hs':(CC L).shared g=true:=hs
 unfold bU
 rw[if_pos hs',hr]
 simp only[bM,hi,vF hw,Bool.and_self,cond_true,ja,QS hl ho]
theorem LJ {l:Ω}{a:Nat}(h:∀ i ∈ l,i=a):l=List.replicate l.length a:=eq_replicate_iff.2 ⟨rfl,h⟩
def eV (V:List Rat):Ψ:=[vR V]
theorem aiF:Ec 1 eV:=cl.list
def mC (M:List (List Rat)):PV:=dj eV M
theorem Ip (M:List (List Rat)):dy (mC M)=some M.length:=rfl
theorem ain (M:List (List Rat))(i:Nat)(hi:i<M.length):∃ r,aU TT 80 (mC M) (.sc (.int .i64 (i:Int)))=some (.iptr r)∧r.head?=some (vR M[i]):=by
 have h:=jT aiF.toEl M i hi
 refine⟨bq (M.flatMap eV) (i*1),?_,by rw[h];rfl⟩
 unfold mC dj
 simp only[aU,vN,bh,R3,hi,if_true]
theorem LL:fq TT 80=some false:=by kernel_rfl
theorem J7:de TT 80=some 1:=by kernel_rfl
theorem Gt:und TT 140=some (.slice 4):=by kernel_rfl
theorem wm:de TT 140=some 1:=by kernel_rfl
theorem CD:fq TT 140=some false:=by kernel_rfl
def bl (b:Bool):PV:=.sc (.bool b)
theorem A5:base.F.get 109=some f109:=by kernel_rfl
theorem J3:base.shared 109=true:=by kernel_rfl
theorem sFn:de TT 141=some 1:=by kernel_rfl
theorem aFn:fq TT 141=some false:=by kernel_rfl
def exC:Code:=f109.body.getD .skip
def exL:Code:=(aA exC).getD .skip
def afW:Code:=seq1 exL
def afV:Code:=seq1 (bn exL)
def pd:Code:=blk (seq1 (bn (bn exL)))
def VR:Code:=bn (bn (bn exL))
def abP:Code:=seq1 pd
def abO:Code:=seq1 (bn pd)
def nZ:Code:=seq1 (bn (bn pd))
def Lo:Code:=bn (bn (bn pd))
def abN:Code:=seq1 nZ
def VQ:Code:=seq1 (bn nZ)
def FE:Code→Code
 | .cond _ a _=>a
 | c=>c
def exT:Code:=FE (bn (bn nZ))
def VP:Code:=seq1 exT
def AM:Code:=seq1 (bn exT)
def VO:Code:=seq1 (bn (bn exT))
def AL:Code:=seq1 (bn (bn (bn exT)))
def VN:Code:=bn (bn (bn (bn exT)))
theorem afU:exL = .seq afW (.seq afV (.seq (.block 1 (.seq abP (.seq abO (.seq nZ Lo)))) VR)):=rfl
theorem Ln:nZ = .seq abN (.seq VQ (.cond (.tmp 33) exT .skip)):=rfl
theorem afT:exT = .seq VP (.seq AM (.seq VO (.seq AL VN))):=rfl
def XF (fr:Ψ)(b row n i:Nat)(neg:Bool):Prop:=fr.length=56∧nth fr 0=iv row∧nth fr 1 = .ptr 0 0∧nth fr 2 = .ptr 3 0∧nth fr 3 = .ptr 4 0∧nth fr 5 = .ptr b 0∧nth fr 6 = .ptr (b+1) 0∧nth fr 7 = .sc (.bool neg)∧nth fr 16=iv n∧nth fr 17=iv i
def fnP:PV:=.clos 109 [.ptr 0 0,.ptr 3 0,.ptr 4 0]
def H0 (hp:Θ)(M:List (List Rat))(n:Nat)(S:List Bool):Prop:=aP hp 0=some ⟨.live,[mC M]⟩∧aP hp 2=some ⟨.live,S.map bl⟩∧aP hp 3=some ⟨.live,[.own 2 1 0 n true]⟩∧aP hp 4=some ⟨.live,[fnP]⟩
theorem afQ (L:Lst)(run:aw)(k:Nat)(fr:Ψ)(hp:Θ)(wr:Ω)(b row n:Nat)(neg:Bool)(h:XF fr b row n n neg) :
  ∃ fr',af (CC L) run k exL ⟨fr,hp,wr⟩=some (.exit 0,⟨fr',hp,wr⟩)∧XF fr' b row n n neg:=by
 obtain⟨h0,h1,h2,h3,h4,h5,h6,h7,h8,h9⟩:=h
 simp only[iv] at h1 h8 h9
 simp[XF,exL,exC,f109,h0,h1,h2,h3,h4,h5,h6,h7,h8,h9]
theorem ajN (L:Lst)(run:aw)(k:Nat)(fr:Ψ)(hp:Θ)(wr:Ω)(b row n i:Nat)(neg:Bool)(hi:i<n)(h:XF fr b row n i neg) :
  ∃ fr1 fr2,af (CC L) run k afW ⟨fr,hp,wr⟩=some (.normal,⟨fr1,hp,wr⟩)∧af (CC L) run k afV ⟨fr1,hp,wr⟩=some (.normal,⟨fr1,hp,wr⟩)∧af (CC L) run k abP ⟨fr1,hp,wr⟩=some (.normal,⟨fr2,hp,wr⟩)∧XF fr2 b row n i neg∧nth fr2 8=iv i:=by
 obtain⟨h0,h1,h2,h3,h4,h5,h6,h7,h8,h9⟩:=h
 simp only[iv] at h1 h8 h9
 refine⟨eY fr 18 (.sc (.bool true)),?_⟩
 simp[XF,afW,afV,abP,pd,exL,exC,f109,eE,h0,h1,h2,h3,h4,h5,h6,h7,h8,h9,hi]
theorem Vx (n i:Nat)(hi:i<n):aU TT 140 (.own 2 1 0 n true) (.sc (.int .i64 (i:Int)))=some (.ptr 2 i):=by
 simp only[aU,Gt,bh,sB,hi,and_self,if_true,Nat.zero_add,Nat.mul_one]
theorem Lj (L:Lst)(run:aw)(k:Nat)(fr:Ψ)(hp:Θ)(wr:Ω)(b row n i:Nat)(neg:Bool)(M:List (List Rat))(S:List Bool)(hi:i<n)(hS:S.length=n)(v:Bool)(hv:S.getD i false=v)(h:XF fr b row n i neg)(h8':nth fr 8=iv i)(hh:H0 hp M n S) :
  ∃ fr',af (CC L) run k abO ⟨fr,hp,wr⟩=some (bif v then .exit 1 else .normal,⟨fr',hp,wr⟩)∧XF fr' b row n i neg∧nth fr' 8=iv i:=by
 obtain⟨h0,h1,h2,h3,h4,h5,h6,h7,h8,h9⟩:=h
 obtain⟨k0,k2,k3,k4⟩:=hh
 have hx:=Vx n i hi
 have hd:=kr (e:=bl) S i (by omega)
 have hv':S[i]'(by omega)=v:=by rw[← hv,getD_eq_getElem?_getD,List.getElem?_eq_getElem (by omega)];rfl
 rw[hv'] at hd
 simp only[iv] at h1 h8 h9 h8'
 simp only[bl] at hd
 have k2':aP hp 2=some ⟨.live,S.map fun b=>.sc (.bool b)⟩:=k2
 have hd':(bq (S.map fun b=>(PV.sc (.bool b))) i).head?=some (.sc (.bool v)):=hd
 generalize (S.map fun b=>(PV.sc (.bool b)))=cs at *
 cases v <;> simp[XF,abO,pd,exL,exC,f109,eE,h0,h1,h2,h3,h4,h5,h6,h7,h8,h9,h8',k2',k3,hx,hd',CD,wm,aB,sB]
theorem ajO (L:Lst)(run:aw)(k:Nat)(fr:Ψ)(hp:Θ)(wr:Ω)(b row n i:Nat)(neg:Bool)(M:List (List Rat))(S:List Bool)(hr:row<M.length)(hi:i<M[row].length)(v:Bool)(gs:az L run 49 [.agg (rcs M[row][i])] (Ab.bJ (nk M[row][i])))(hv:(nk M[row][i] != 0)=v)(h:XF fr b row n i neg)(h8':nth fr 8=iv i)(hh:H0 hp M n S) :
  ∃ fr1 fr',af (CC L) run k abN ⟨fr,hp,wr⟩=some (.normal,⟨fr1,bZ (aL hp rz) hp.length ⟨.live,rcs M[row][i]⟩,aC [hp.length] (aC [hp.length] wr)⟩)∧af (CC L) run k VQ ⟨fr1,bZ (aL hp rz) hp.length ⟨.live,rcs M[row][i]⟩,aC [hp.length] (aC [hp.length] wr)⟩=some (.normal,⟨fr',bZ (aL hp rz) hp.length ⟨.live,rcs M[row][i]⟩,aC [hp.length] (aC [hp.length] wr)⟩)∧XF fr' b row n i neg∧nth fr' 8=iv i∧nth fr' 9 = .ptr hp.length 0∧nth fr' 33 = .sc (.bool v):=by
 obtain⟨h0,h1,h2,h3,h4,h5,h6,h7,h8,h9⟩:=h
 obtain⟨k0,k2,k3,k4⟩:=hh
 obtain⟨r,x1,x2⟩:=ain M row hr
 obtain⟨r',y1,y2⟩:=pO false M[row] i hi
 rw[show dm false M[row]=vR M[row] from rfl] at y1
 have hx:=al1 hp rz
 have hx1:=dH rz (rcs M[row][i]) (by rw[cl.len];rfl)
 have hx2:=al2 hp rz ⟨.live,rcs M[row][i]⟩
 have hx4:=dM (rcs M[row][i]) (cl.len _)
 have hokx:=cl.okc M[row][i]
 have hlx:=cl.len M[row][i]
 unfold az at gs
 simp only[Ab.bJ] at gs
 generalize nk M[row][i]=sg at *
 generalize rcs M[row][i]=cx at *
 generalize M[row]=R at *
 simp only[iv] at h1 h8 h9 h8'
 have zR':=zRz
 obtain⟨fr1,a1,a2,a3,a4,a5,a6,a7,a8,a9,a10,a11,a12,a13⟩:∃ fr1,af (CC L) run k abN ⟨fr,hp,wr⟩=some (.normal,⟨fr1,bZ (aL hp rz) hp.length ⟨.live,cx⟩,aC [hp.length] (aC [hp.length] wr)⟩)∧fr1.length=56∧nth fr1 0 = .sc (.int .i64 (row:Int))∧nth fr1 1 = .ptr 0 0∧nth fr1 2 = .ptr 3 0∧nth fr1 3 = .ptr 4 0∧nth fr1 5 = .ptr b 0∧nth fr1 6 = .ptr (b+1) 0∧nth fr1 7 = .sc (.bool neg)∧nth fr1 16 = .sc (.int .i64 (n:Int))∧nth fr1 17 = .sc (.int .i64 (i:Int))∧nth fr1 8 = .sc (.int .i64 (i:Int))∧nth fr1 9 = .ptr hp.length 0:=by
  simp[abN,nZ,pd,exL,exC,f109,bm,eE,h0,h1,h2,h3,h4,h5,h6,h7,h8,h9,h8',k0,x1,x2,y1,y2,hx,hx1,hokx,hlx,LL,J7,ajY,R3,aR,sR,zR']
 refine⟨fr1,?_⟩
 rw[a1]
 simp[XF,VQ,nZ,pd,exL,exC,f109,eE,a2,a3,a4,a5,a6,a7,a8,a9,a10,a11,a12,a13,gs,hv,hx2,hx4,aR,sR]
theorem ac5 (L:Lst)(run:aw)(k:Nat)(fr:Ψ)(hp:Θ)(wr:Ω)(b row n i:Nat)(neg:Bool)(h:XF fr b row n i neg) :
  ∃ fr',af (CC L) run k Lo ⟨fr,hp,wr⟩=some (.normal,⟨fr',hp,wr⟩)∧XF fr' b row n i (!neg):=by
 obtain⟨h0,h1,h2,h3,h4,h5,h6,h7,h8,h9⟩:=h
 simp only[iv] at h1 h8 h9
 simp[XF,Lo,pd,exL,exC,f109,unP,eE,h0,h1,h2,h3,h4,h5,h6,h7,h8,h9]
theorem aiw (L:Lst)(run:aw)(k:Nat)(fr:Ψ)(hp:Θ)(wr:Ω)(b row n i:Nat)(neg:Bool)(hi:i<1000)(h:XF fr b row n i neg) :
  ∃ fr',af (CC L) run k VR ⟨fr,hp,wr⟩=some (.normal,⟨fr',hp,wr⟩)∧XF fr' b row n (i+1) neg:=by
 obtain⟨h0,h1,h2,h3,h4,h5,h6,h7,h8,h9⟩:=h
 have hw:=bA i (by omega)
 simp only[iv] at h1 h8 h9
 simp[XF,VR,exL,exC,f109,eE,h0,h1,h2,h3,h4,h5,h6,h7,h8,h9,hw]
theorem aiu:(Region.before (iP AM))[6]?.getD 0=63:=by kernel_rfl
theorem aiv:(Region.before (iP AM))[4]?.getD 0=14:=by kernel_rfl
def YF (fr:Ψ)(b row n i x:Nat)(neg:Bool):Prop:=XF fr b row n i neg∧nth fr 8=iv i∧nth fr 9 = .ptr x 0
theorem KG (S:List Bool)(i:Nat)(v:Bool)(hi:i<S.length):cm (S.map bl) i [.sc (.bool v)]=some ((S.set i v).map bl):=mu (e:=bl) S i v hi
theorem aiA (L:Lst)(run:aw)(k:Nat)(fr:Ψ)(hp:Θ)(wr:Ω)(b row n i x:Nat)(neg:Bool)(S:List Bool)(hi:i<n)(hS:S.length=n)(h:YF fr b row n i x neg)(k2:aP hp 2=some ⟨.live,S.map bl⟩)(k3:aP hp 3=some ⟨.live,[.own 2 1 0 n true]⟩) :
  ∃ fr',af (CC L) run k VP ⟨fr,hp,wr⟩=some (.normal,⟨fr',bZ hp 2 ⟨.live,(S.set i true).map bl⟩,aC [2] wr⟩)∧YF fr' b row n i x neg:=by
 obtain⟨⟨h0,h1,h2,h3,h4,h5,h6,h7,h8,h9⟩,h10,h11⟩:=h
 have hx:=Vx n i hi
 have ho:=KG S i true (by omega)
 simp only[iv] at h1 h8 h9 h10
 generalize S.map bl=cs at *
 generalize (S.set i true).map bl=cs' at *
 simp[YF,XF,VP,exT,FE,nZ,pd,exL,exC,f109,kz,bH,bd,eE,h0,h1,h2,h3,h4,h5,h6,h7,h8,h9,h10,h11,k2,k3,hx,ho,CD,wm,sB]
theorem aiy (L:Lst)(run:aw)(k:Nat)(fr:Ψ)(hp:Θ)(wr:Ω)(b row n i x:Nat)(neg:Bool)(S:List Bool)(hi:i<n)(hS:S.length=n)(h:YF fr b row n i x neg)(k2:aP hp 2=some ⟨.live,S.map bl⟩)(k3:aP hp 3=some ⟨.live,[.own 2 1 0 n true]⟩) :
  ∃ fr',af (CC L) run k VO ⟨fr,hp,wr⟩=some (.normal,⟨fr',bZ hp 2 ⟨.live,(S.set i false).map bl⟩,aC [2] wr⟩)∧YF fr' b row n i x neg:=by
 obtain⟨⟨h0,h1,h2,h3,h4,h5,h6,h7,h8,h9⟩,h10,h11⟩:=h
 have hx:=Vx n i hi
 have ho:=KG S i false (by omega)
 simp only[iv] at h1 h8 h9 h10
 generalize S.map bl=cs at *
 generalize (S.set i false).map bl=cs' at *
 simp[YF,XF,VO,exT,FE,nZ,pd,exL,exC,f109,kz,bH,bd,eE,h0,h1,h2,h3,h4,h5,h6,h7,h8,h9,h10,h11,k2,k3,hx,ho,CD,wm,sB]
set_option maxHeartbeats 2000000 in
theorem aiz (L:Lst)(run:aw)(k:Nat)(fr:Ψ)(hp:Θ)(wr:Ω)(b row n i x m:Nat)(neg:Bool)(cx cr cp:Ψ)(hlx:cx.length=4)(hlp:cp.length=4)(hop:bd cp=true)(h9':row<1000)(hx2:2≠x)(hcall:bU (CC L) run true hp 109 [.sc (.int .i64 ((row:Int)+1)),.ptr 0 0,.ptr 3 0,.ptr 4 0]=some (.agg cr,hp,⟨[],List.replicate m 2,true,true⟩))(g:az L run 56 [.agg cx,.agg cr] (.agg cp))(h:YF fr b row n i x neg)(k4:aP hp 4=some ⟨.live,[fnP]⟩)(kx:aP hp x=some ⟨.live,cx⟩) :
  ∃ fr',af (CC L) run k AM ⟨fr,hp,wr⟩=some (.normal,⟨fr',bZ hp x ⟨.live,cp⟩,aC [x] (aC (List.replicate m 2) wr)⟩)∧YF fr' b row n i x neg:=by
 obtain⟨⟨h0,h1,h2,h3,h4,h5,h6,h7,h8,h9⟩,h10,h11⟩:=h
 have hw:=bA row (by omega)
 have ht:=dM cx hlx
 have ho:=dH cx cp (by omega)
 have hb6:=aiu
 have hb4:=aiv
 simp[AM,exT,FE,nZ,pd,exL,exC,f109,iP] at hb6 hb4
 have t0:Nat.testBit 63 0=true:=by decide
 have t1:Nat.testBit 63 1=true:=by decide
 have t4:Nat.testBit 63 4=true:=by decide
 have t5:Nat.testBit 14 1=true:=by decide
 have t6:Nat.testBit 14 0=false:=by decide
 have hx3 : ¬ (2=x):=hx2
 have hx4 : ¬ (x=2):=fun e=>hx2 e.symm
 unfold az at g
 unfold fnP at k4
 simp only[iv] at h1 h8 h9 h10
 simp[-Nat.testBit_zero,hb6,hb4,t0,t1,t4,t5,t6,YF,XF,AM,exT,FE,nZ,pd,exL,exC,f109,bm,eE,h0,h1,h2,h3,h4,h5,h6,h7,h8,h9,h10,h11,k4,kx,ht,ho,hw,hcall,g,hop,hlp,hx3,aR,sR,sFn,aFn,number,FP.free,cD,FP.apart]
theorem afS (L:Lst)(run:aw)(k:Nat)(fr:Ψ)(hp:Θ)(wr:Ω)(b row n i x:Nat)(cx cp:Ψ)(hlx:cx.length=4)(hlp:cp.length=4)(hop:bd cp=true)(g:az L run 106 [.agg cx] (.agg cp))(h:YF fr b row n i x true)(kx:aP hp x=some ⟨.live,cx⟩) :
  ∃ fr',af (CC L) run k AL ⟨fr,hp,wr⟩=some (.normal,⟨fr',bZ hp x ⟨.live,cp⟩,aC [x] wr⟩)∧YF fr' b row n i x true:=by
 obtain⟨⟨h0,h1,h2,h3,h4,h5,h6,h7,h8,h9⟩,h10,h11⟩:=h
 have ht:=dM cx hlx
 have ho:=dH cx cp (by omega)
 unfold az at g
 simp only[iv] at h1 h8 h9 h10
 simp[YF,XF,AL,exT,FE,nZ,pd,exL,exC,f109,bm,eE,h0,h1,h2,h3,h4,h5,h6,h7,h8,h9,h10,h11,kx,ht,ho,g,hop,hlp,aR,sR]
theorem afR (L:Lst)(run:aw)(k:Nat)(fr:Ψ)(hp:Θ)(wr:Ω)(b row n i x:Nat)(h:YF fr b row n i x false) :
  ∃ fr',af (CC L) run k AL ⟨fr,hp,wr⟩=some (.normal,⟨fr',hp,wr⟩)∧YF fr' b row n i x false:=by
 obtain⟨⟨h0,h1,h2,h3,h4,h5,h6,h7,h8,h9⟩,h10,h11⟩:=h
 simp only[iv] at h1 h8 h9 h10
 simp[YF,XF,AL,exT,FE,nZ,pd,exL,exC,f109,eE,h0,h1,h2,h3,h4,h5,h6,h7,h8,h9,h10,h11]
theorem aix (L:Lst)(run:aw)(k:Nat)(fr:Ψ)(hp:Θ)(wr:Ω)(b row n i x:Nat)(neg:Bool)(sc cx cp:Ψ)(hls:sc.length=4)(hlx:cx.length=4)(hlp:cp.length=4)(hop:bd cp=true)(g:az L run 87 [.agg sc,.agg cx] (.agg cp))(h:YF fr b row n i x neg)(kx:aP hp x=some ⟨.live,cx⟩)(ks:aP hp (b+1)=some ⟨.live,sc⟩) :
  ∃ fr',af (CC L) run k VN ⟨fr,hp,wr⟩=some (.normal,⟨fr',bZ hp (b+1) ⟨.live,cp⟩,aC [b+1] wr⟩)∧XF fr' b row n i neg:=by
 obtain⟨⟨h0,h1,h2,h3,h4,h5,h6,h7,h8,h9⟩,h10,h11⟩:=h
 have ht:=dM cx hlx
 have hts:=dM sc hls
 have ho:=dH sc cp (by omega)
 unfold az at g
 simp only[iv] at h1 h8 h9 h10
 simp[XF,VN,exT,FE,nZ,pd,exL,exC,f109,bm,eE,h0,h1,h2,h3,h4,h5,h6,h7,h8,h9,h11,kx,ks,ht,hts,ho,g,hop,hlp,aR,sR]
def XH (hp0 hp:Θ)(sc:Ψ):Prop:=hp0.length+2≤hp.length∧(∀ i,i<hp0.length→aP hp i=aP hp0 i)∧aP hp hp0.length=some ⟨.live,rz⟩∧aP hp (hp0.length+1)=some ⟨.live,sc⟩
def WB (b:Nat)(w:Ω):Prop:=∀ i ∈ w,i=2∨b≤i
theorem WB.add {b:Nat}{w l:Ω}(h:WB b w)(h':WB b l):WB b (aC l w):=fun i hi=>by
 rcases jC hi with hi | hi
 ·exact h' i hi
 ·exact h i hi
theorem WB.one {b x:Nat}(h:x=2∨b≤x):WB b [x]:=fun i hi=>by
 rw[mem_singleton] at hi;subst hi;exact h
theorem WB.rep {b m:Nat} : WB b (List.replicate m 2):=fun i hi=>.inl (mem_replicate.1 hi).2
theorem iX {hp:Θ}{i j:Nat}{b b0:Blk}(h:aP hp i=some b0)(hij:j≠i):aP (bZ hp i b) j=aP hp j:=by rw[cI h,if_neg hij]
theorem nf {hp:Θ}{i:Nat}{b b0:Blk}(h:aP hp i=some b0):aP (bZ hp i b) i=some b:=by rw[cI h,if_pos rfl]
theorem R1 (S:List Bool)(i:Nat)(hi:i<S.length)(h:S.getD i false=false):(S.set i true).set i false=S:=by
 rw[set_set]
 have:S[i]=false:=by rw[← h,getD_eq_getElem?_getD,List.getElem?_eq_getElem hi];rfl
 rw[← this,set_getElem_self]
theorem abJ (L:Lst)(run:aw)(k:Nat)(gm:bt L 56=fun a=>jy (aJ a))(ga:bt L 87=fun a=>fW (aJ a))(gn:bt L 106=fun a=>ki (aJ a))(hp0 hp:Θ)(fr:Ψ)(wr:Ω)(row n i x:Nat)(neg:Bool)(M:List (List Rat))(S:List Bool)(sc:Ψ)(u:Option Rat)(e f:Rat)(cr:Ψ)(uf:Option Rat){j k1 k2:Nat}
  (hi:i<n) (hS:S.length=n) (h9':row<1000) (hSi:S.getD i false=false) (h5:5≤hp0.length) (hH:H0 hp0 M n S) (hX:XH hp0 hp sc) (hx:hp0.length+2≤x) (hx':x<hp.length) (kx:aP hp x=some ⟨.live,rcs e⟩) (hY:YF fr hp0.length row n i x neg) (hc:Rc sc u) (hcr:Rc cr uf) (hf:vv uf=f)
  (hb1:Rb j (vv u)) (hb2:Rb k1 e) (hb3:Rb k2 f) (h6:j+k1+k2≤1000000) (hw:WB hp0.length wr)
  (hcall:∀ hp1:Θ,hp0.length≤hp1.length→(∀ i,i<hp0.length→i≠2→aP hp1 i=aP hp0 i)→aP hp1 2=some ⟨.live,(S.set i true).map bl⟩→∃ m,bU (CC L) run true hp1 109 [.sc (.int .i64 ((row:Int)+1)),.ptr 0 0,.ptr 3 0,.ptr 4 0]=some (.agg cr,hp1,⟨[],List.replicate m 2,true,true⟩)) :
  ∃ fr' hp' wr' sc',af (CC L) run k exT ⟨fr,hp,wr⟩=some (.normal,⟨fr',hp',wr'⟩)∧XF fr' hp0.length row n i neg∧XH hp0 hp' sc'∧WB hp0.length wr'∧Rc sc' (some (vv u+(bif neg then -(e*f) else e*f))):=by
 obtain⟨q1,q2,q3,q4⟩:=hX
 obtain⟨p0,p2,p3,p4⟩:=hH
 have k2':aP hp 2=some ⟨.live,S.map bl⟩:=by rw[q2 2 (by omega),p2]
 have k3':aP hp 3=some ⟨.live,[.own 2 1 0 n true]⟩:=by rw[q2 3 (by omega),p3]
 have k4':aP hp 4=some ⟨.live,[fnP]⟩:=by rw[q2 4 (by omega),p4]
 obtain⟨fr1,a1,a2⟩:=aiA L run k fr hp wr hp0.length row n i x neg S hi hS hY k2' k3'
 generalize hg1:bZ hp 2 ⟨.live,(S.set i true).map bl⟩=hp1 at *
 have l1:hp1.length=hp.length:=by rw[← hg1,bC]
 have n1:∀ t,t≠2→aP hp1 t=aP hp t:=fun t ht=>by rw[← hg1];exact iX k2' ht
 have n12:aP hp1 2=some ⟨.live,(S.set i true).map bl⟩:=by rw[← hg1];exact nf k2'
 obtain⟨m,hcm⟩:=hcall hp1 (by omega) (fun t ht ht2=>by rw[n1 t ht2,q2 t ht]) n12
 have VF:=XE gm run (p:=.agg (rcs e)) (q:=.agg cr) (u:=some e) (v:=uf) (.inl rfl) hcr.p hb2 (by rw[hf];exact hb3) (by omega)
 rw[hf] at VF
 obtain⟨fr2,b1,b2⟩:=aiz L run k fr1 hp1 (aC [2] wr) hp0.length row n i x m neg (rcs e) cr (rcs (e*f)) (cl.len _) (cl.len _) (cl.okc _) h9' (by omega) hcm VF a2 (by rw[n1 4 (by omega),k4']) (by rw[n1 x (by omega),kx])
 have kx1:aP hp1 x=some ⟨.live,rcs e⟩:=by rw[n1 x (by omega),kx]
 generalize hg2:bZ hp1 x ⟨.live,rcs (e*f)⟩=hp2 at *
 have l2:hp2.length=hp.length:=by rw[← hg2,bC,l1]
 have n2:∀ t,t≠x→aP hp2 t=aP hp1 t:=fun t ht=>by rw[← hg2];exact iX kx1 ht
 have n2x:aP hp2 x=some ⟨.live,rcs (e*f)⟩:=by rw[← hg2];exact nf kx1
 have n22:aP hp2 2=some ⟨.live,(S.set i true).map bl⟩:=by rw[n2 2 (by omega),n12]
 obtain⟨fr3,c1,c2⟩:=aiy L run k fr2 hp2 (aC [x] (aC (List.replicate m 2) (aC [2] wr))) hp0.length row n i x neg (S.set i true) hi (by rw[length_set];exact hS) b2 n22 (by rw[n2 3 (by omega),n1 3 (by omega),k3'])
 rw[R1 S i (by omega) hSi] at c1
 generalize hg3:bZ hp2 2 ⟨.live,S.map bl⟩=hp3 at *
 have l3:hp3.length=hp.length:=by rw[← hg3,bC,l2]
 have n3:∀ t,t≠2→aP hp3 t=aP hp2 t:=fun t ht=>by rw[← hg3];exact iX n22 ht
 have n32:aP hp3 2=some ⟨.live,S.map bl⟩:=by rw[← hg3];exact nf n22
 have n3x:aP hp3 x=some ⟨.live,rcs (e*f)⟩:=by rw[n3 x (by omega),n2x]
 have w3:WB hp0.length (aC [2] (aC [x] (aC (List.replicate m 2) (aC [2] wr)))):=(((hw.add (WB.one (.inl rfl))).add WB.rep).add (WB.one (.inr (by omega)))).add (WB.one (.inl rfl))
 have old3:∀ t,t<hp0.length→aP hp3 t=aP hp0 t:=fun t ht=>by
  by_cases e2:t=2
  ·subst e2;rw[n32,p2]
  ·rw[n3 t e2,n2 t (by omega),n1 t e2,q2 t ht]
 have s3:aP hp3 (hp0.length+1)=some ⟨.live,sc⟩:=by rw[n3 _ (by omega),n2 _ (by omega),n1 _ (by omega),q4]
 have r3:aP hp3 hp0.length=some ⟨.live,rz⟩:=by rw[n3 _ (by omega),n2 _ (by omega),n1 _ (by omega),q3]
 have fin:∀ (fr4:Ψ) (hp4:Θ) (wr4:Ω) (t:Rat),Rb (k1+k2) t→af (CC L) run k AL ⟨fr3,hp3,aC [2] (aC [x] (aC (List.replicate m 2) (aC [2] wr)))⟩=some (.normal,⟨fr4,hp4,wr4⟩)→YF fr4 hp0.length row n i x neg→hp4.length=hp.length→(∀ s,s≠x→aP hp4 s=aP hp3 s)→aP hp4 x=some ⟨.live,rcs t⟩→WB hp0.length wr4→(bif neg then -(e*f) else e*f)=t →
   ∃ fr' hp' wr' sc',af (CC L) run k exT ⟨fr,hp,wr⟩=some (.normal,⟨fr',hp',wr'⟩)∧XF fr' hp0.length row n i neg∧XH hp0 hp' sc'∧WB hp0.length wr'∧Rc sc' (some (vv u+(bif neg then -(e*f) else e*f))):=by
  intro fr4 hp4 wr4 t hbt d1 d2 l4 n4 n4x w4 ht
  have gadd:=XG ga run (p:=.agg sc) (q:=.agg (rcs t)) (u:=u) (v:=some t) hc.p (.inl rfl) hb1 hbt (by omega)
  have s4:aP hp4 (hp0.length+1)=some ⟨.live,sc⟩:=by rw[n4 _ (by omega),s3]
  obtain⟨fr5,e1,e2⟩:=aix L run k fr4 hp4 wr4 hp0.length row n i x neg sc (rcs t) (rcs (vv u+t)) hc.len (cl.len _) (cl.len _) (cl.okc _) gadd d2 n4x s4
  refine⟨fr5,bZ hp4 (hp0.length+1) ⟨.live,rcs (vv u+t)⟩,aC [hp0.length+1] wr4,rcs (vv u+t),?_,e2,⟨?_,?_,?_,?_⟩,w4.add (WB.one (x:=hp0.length+1) (.inr (by omega))),?_⟩
  ·rw[afT,ar a1,ar b1,ar c1,ar d1];exact e1
  ·rw[bC];omega
  ·intro t' ht';rw[iX (j:=t') s4 (by omega),n4 t' (by omega),old3 t' ht']
  ·rw[iX (j:=hp0.length) s4 (by omega),n4 hp0.length (by omega),r3]
  ·rw[nf s4]
  ·rw[ht];exact .inl rfl
 cases neg with
 | false =>
  obtain⟨fr4,d1,d2⟩:=afR L run k fr3 hp3 (aC [2] (aC [x] (aC (List.replicate m 2) (aC [2] wr)))) hp0.length row n i x c2
  exact fin fr4 hp3 _ (e*f) (hb2.mul hb3) d1 d2 l3 (fun _ _=>rfl) n3x w3 rfl
 | true =>
  have gneg:=agV gn run (p:=.agg (rcs (e*f))) (u:=some (e*f)) (.inl rfl) (hb2.mul hb3) (by omega)
  obtain⟨fr4,d1,d2⟩:=afS L run k fr3 hp3 (aC [2] (aC [x] (aC (List.replicate m 2) (aC [2] wr)))) hp0.length row n i x (rcs (e*f)) (rcs (-(e*f))) (cl.len _) (cl.len _) (cl.okc _) gneg c2 n3x
  exact fin fr4 _ _ (-(e*f)) (hb2.mul hb3).neg d1 d2 (by rw[bC,l3]) (fun s hs=>iX n3x hs) (nf n3x) (w3.add (WB.one (.inr (by omega)))) rfl
def cz:Option Rat→Ψ
 | none=>rz
 | some x=>rcs x
theorem AV (u:Option Rat):Rc (cz u) u:=by
 cases u
 ·exact .inr ⟨rfl,rfl⟩
 ·exact .inl rfl
theorem ai8 {cs:Ψ}{x:Rat}(h:Rc cs (some x)):cs=cz (some x):=by
 rcases h with h | ⟨h,-⟩
 ·exact h
 ·cases h
theorem yN {C:Cfg}{run:aw}{k i:Nat}{a b:Code}{st st':St}(h:af C run k a st=some (.exit i,st')):af C run k (.seq a b) st=some (.exit i,st'):=by
 simp only[af,h]
theorem uO {C:Cfg}{run:aw}{k i:Nat}{b:Code}{st st':St}(h:af C run k b st=some (.exit i,st')):af C run k (.block i b) st=some (.normal,st'):=by
 simp only[af,h,if_true]
theorem AK {C:Cfg}{run:aw}{k:Nat}{c:Operand}{a b:Code}{st:St}{v:Bool}(h:aj st.fr c = .sc (.bool v)):af C run k (.cond c a b) st=bif v then af C run k a st else af C run k b st:=by
 cases v <;> simp only[af,h,cond_true,cond_false]
theorem Y4 (x:Rat):(nk x != 0) = !decide (x=0):=by
 unfold nk
 by_cases h:x=0
 ·subst h;rfl
 ·rw[decide_eq_false h,Bool.not_false,bne_iff_ne]
  intro e
  exact h (Rat.num_eq_zero.1 (Int.sign_eq_zero_iff_zero.1 e))
def X1 (L:Lst)(run:aw)(hp0:Θ)(S:List Bool)(row n:Nat)(U:Nat→Option Rat):Prop :=
 ∀ i,i<n→S.getD i false=false→∀ hp1:Θ,hp0.length≤hp1.length→(∀ t,t<hp0.length→t≠2→aP hp1 t=aP hp0 t)→aP hp1 2=some ⟨.live,(S.set i true).map bl⟩ →
  ∃ m,bU (CC L) run true hp1 109 [.sc (.int .i64 ((row:Int)+1)),.ptr 0 0,.ptr 3 0,.ptr 4 0]=some (.agg (cz (U i)),hp1,⟨[],List.replicate m 2,true,true⟩)
theorem Lk (L:Lst)(run:aw)(k:Nat)(gm:bt L 56=fun a=>jy (aJ a))(ga:bt L 87=fun a=>fW (aJ a))(gn:bt L 106=fun a=>ki (aJ a))(gs:bt L 49=fun a=>iZ (aJ a))(hp0:Θ)(row n:Nat)(M:List (List Rat))(S:List Bool)(U:Nat→Option Rat){k1 k2:Nat}
  (hS:S.length=n) (h9':row<1000) (hn9:n<1000) (h5:5≤hp0.length) (hH:H0 hp0 M n S) (hr:row<M.length) (hR:M[row].length=n) (hk:0<k1) (hb2:RbL k1 M[row]) (hb3:∀ i,Rb k2 (vv (U i))) (h6:n*(k1+k2+1)+1+k1+k2≤1000000) (hcall:X1 L run hp0 S row n U) :
  ∀ (d i:Nat) (fr:Ψ) (hp:Θ) (wr:Ω),i+d=n→XF fr hp0.length row n i (exS (fun i=>vv (U i)) M[row] S i).2→XH hp0 hp (cz (exS (fun i=>vv (U i)) M[row] S i).1)→WB hp0.length wr →
  ∃ fr' hp' wr',ch (af (CC L) run k exL) (d+1) ⟨fr,hp,wr⟩=some (.exit 0,⟨fr',hp',wr'⟩)∧XF fr' hp0.length row n n (exS (fun i=>vv (U i)) M[row] S n).2∧XH hp0 hp' (cz (exS (fun i=>vv (U i)) M[row] S n).1)∧WB hp0.length wr'
 | 0,i,fr,hp,wr,hin,h,hX,hw=>by
  have e:i=n:=by omega
  subst e
  obtain⟨fr',q1,q2⟩:=afQ L run k fr hp wr hp0.length row i _ h
  exact⟨fr',hp,wr,bE q1,q2,hX,hw⟩
 | d+1,i,fr,hp,wr,hin,h,hX,hw=>by
  have hi:i<n:=by omega
  have hiR:i<M[row].length:=by omega
  obtain⟨fr1,fr2,a1,a2,a3,a4,a5⟩:=ajN L run k fr hp wr hp0.length row n i _ hi h
  have hHh:H0 hp M n S:=by
   obtain⟨p0,p2,p3,p4⟩:=hH
   obtain⟨-,q2,-⟩:=hX
   exact⟨by rw[q2 0 (by omega),p0],by rw[q2 2 (by omega),p2],by rw[q2 3 (by omega),p3],by rw[q2 4 (by omega),p4]⟩
  have go:∀ (fr3:Ψ) (hp3:Θ) (wr3:Ω),af (CC L) run k (.block 1 (.seq abP (.seq abO (.seq nZ Lo)))) ⟨fr1,hp,wr⟩=some (.normal,⟨fr3,hp3,wr3⟩)→XF fr3 hp0.length row n i (exS (fun i=>vv (U i)) M[row] S (i+1)).2→XH hp0 hp3 (cz (exS (fun i=>vv (U i)) M[row] S (i+1)).1)→WB hp0.length wr3 →
    ∃ fr' hp' wr',ch (af (CC L) run k exL) (d+1+1) ⟨fr,hp,wr⟩=some (.exit 0,⟨fr',hp',wr'⟩)∧XF fr' hp0.length row n n (exS (fun i=>vv (U i)) M[row] S n).2∧XH hp0 hp' (cz (exS (fun i=>vv (U i)) M[row] S n).1)∧WB hp0.length wr':=by
   intro fr3 hp3 wr3 b1 b2 b3 b4
   obtain⟨fr4,c1,c2⟩:=aiw L run k fr3 hp3 wr3 hp0.length row n i _ (by omega) b2
   obtain⟨fr',hp',wr',s1,s2⟩:=Lk L run k gm ga gn gs hp0 row n M S U hS h9' hn9 h5 hH hr hR hk hb2 hb3 h6 hcall d (i+1) fr4 hp3 wr3 (by omega) c2 b3 b4
   refine⟨fr',hp',wr',?_,s2⟩
   rw[ca (st':=⟨fr4,hp3,wr3⟩) (by rw[afU,ar a1,ar a2,ar b1];exact c1)]
   exact s1
  have eS:exS (fun i=>vv (U i)) M[row] S (i+1)=if S.getD i false=true then exS (fun i=>vv (U i)) M[row] S i else if M[row].getD i 0=0 then ((exS (fun i=>vv (U i)) M[row] S i).1, !(exS (fun i=>vv (U i)) M[row] S i).2) else
   (some (vv (exS (fun i=>vv (U i)) M[row] S i).1+(bif (exS (fun i=>vv (U i)) M[row] S i).2 then -(M[row].getD i 0*vv (U i)) else M[row].getD i 0*vv (U i))), !(exS (fun i=>vv (U i)) M[row] S i).2):=rfl
  have eR:M[row].getD i 0=M[row][i]:=by rw[getD_eq_getElem?_getD,List.getElem?_eq_getElem hiR];rfl
  cases hv:S.getD i false with
  | true =>
   obtain⟨fr3,b1,b2,-⟩:=Lj L run k fr2 hp wr hp0.length row n i _ M S hi hS true hv a4 a5 hHh
   rw[if_pos hv] at eS
   refine go fr3 hp wr ?_ (by rw[eS];exact b2) (by rw[eS];exact hX) hw
   exact uO (by rw[ar a3];exact yN b1)
  | false =>
   obtain⟨fr3,b1,b2,b2'⟩:=Lj L run k fr2 hp wr hp0.length row n i _ M S hi hS false hv a4 a5 hHh
   rw[if_neg (by rw[hv];simp),eR] at eS
   have hbe:Rb k1 M[row][i]:=hb2 _ (getElem_mem hiR)
   obtain⟨fr4,fr5,c1,c2,c3,c4,c5,c6⟩:=ajO L run k fr3 hp wr hp0.length row n i _ M S hr hiR _ (acE gs run (p:=.agg (rcs M[row][i])) (u:=some M[row][i]) (.inl rfl) hbe (by omega)) rfl b2 b2' hHh
   obtain⟨q1,q2,q3,q4⟩:=hX
   have nh:∀ t,t<hp.length→aP (bZ (aL hp rz) hp.length ⟨.live,rcs M[row][i]⟩) t=aP hp t:=fun t ht=>al3 hp rz _ t ht
   have X5:XH hp0 (bZ (aL hp rz) hp.length ⟨.live,rcs M[row][i]⟩) (cz (exS (fun i=>vv (U i)) M[row] S i).1) :=
    ⟨by rw[al4];omega,fun t ht=>by rw[nh t (by omega),q2 t ht],by rw[nh _ (by omega),q3],by rw[nh _ (by omega),q4]⟩
   have w5:WB hp0.length (aC [hp.length] (aC [hp.length] wr)):=(hw.add (WB.one (x:=hp.length) (.inr (by omega)))).add (WB.one (x:=hp.length) (.inr (by omega)))
   rw[Y4] at c6
   have ec:aj fr5 (.tmp 33) = .sc (.bool (!decide (M[row][i]=0))):=c6
   by_cases h0:M[row][i]=0
   ·rw[decide_eq_true h0,Bool.not_true] at ec
    have hN:af (CC L) run k nZ ⟨fr3,hp,wr⟩=some (.normal,⟨fr5,bZ (aL hp rz) hp.length ⟨.live,rcs M[row][i]⟩,aC [hp.length] (aC [hp.length] wr)⟩):=by
     rw[Ln,ar c1,ar c2,AK ec];rfl
    obtain⟨fr6,d1,d2⟩:=ac5 L run k fr5 (bZ (aL hp rz) hp.length ⟨.live,rcs M[row][i]⟩) (aC [hp.length] (aC [hp.length] wr)) hp0.length row n i _ c3
    rw[if_pos h0] at eS
    refine go fr6 _ _ ?_ (by rw[eS];exact d2) (by rw[eS];exact X5) w5
    exact fF (by rw[ar a3,ar b1,ar hN];exact d1)
   ·rw[decide_eq_false h0,Bool.not_false] at ec
    have hbS:Rb (i*(k1+k2+1)+1) (vv (exS (fun i=>vv (U i)) M[row] S i).1):=IC (fun i=>hb3 i) hb2 hk i
    have hin2:i*(k1+k2+1)≤n*(k1+k2+1):=Nat.mul_le_mul_right _ (by omega)
    obtain⟨fr6,hp6,wr6,sc6,d1,d2,d3,d4,d5⟩:=abJ L run k gm ga gn hp0 _ fr5 _ row n i hp.length _ M S _ _ M[row][i] (vv (U i)) (cz (U i)) (U i) hi hS h9' hv h5 hH X5 q1 (by rw[al4];omega) (al2 hp rz _) ⟨c3,c4,c5⟩ (AV _) (AV _) rfl hbS hbe (hb3 i) (by omega) w5 (hcall i hi hv)
    have d6:=ai8 d5
    rw[if_neg h0] at eS
    obtain⟨fr7,e1,e2⟩:=ac5 L run k fr6 hp6 wr6 hp0.length row n i _ d2
    have hN:af (CC L) run k nZ ⟨fr3,hp,wr⟩=some (.normal,⟨fr6,hp6,wr6⟩):=by
     rw[Ln,ar c1,ar c2,AK ec];exact d1
    refine go fr7 hp6 wr6 ?_ (by rw[eS];exact e2) (by rw[eS,← d6];exact d3) d4
    exact fF (by rw[ar a3,ar b1,ar hN];exact e1)
end Go.Proofs.YtjdmodeenbdfpaaGreat
end
