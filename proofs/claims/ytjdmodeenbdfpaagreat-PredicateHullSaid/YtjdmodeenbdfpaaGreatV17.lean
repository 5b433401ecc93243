/- Contracts of numbers kept as digits in text, part 17; each lemma states its conditions. -/
import Derived.Test.YtjdmodeenbdfpaaGreatV16
set_option linter.unusedSimpArgs false
set_option linter.unusedVariables false
noncomputable section
namespace Go.Proofs.YtjdmodeenbdfpaaGreat
open Go Go.Ab List Tryz
attribute [local simp] FzZ aA aC aF aG aH aZ aa ab ae af ag ah ai aj an ao aq au av bL bc bf uL
variable(L:Lst)(run:aw)(k:Nat)(fr:Ψ)(hp:Θ)(wr:Ω)
def jv:Code:=((f118.body).bind aA).getD .skip
def gC:Code:=f118.body.getD .skip
set_option maxHeartbeats 1000000 in
theorem HR(h41:fr.length=41)(h5:nth fr 5 = .sc (.int .i64 (-1))) :
  ∃ fr',ae (CC L) run k jv ⟨fr,[],[]⟩=some (.exit 0,⟨fr',[],[]⟩)∧fr'.length=41:=by
 simp[jv,f118,h41,h5]
set_option maxHeartbeats 1000000 in
theorem Oh(a b:Ω)(m:Nat)(hma:m<a.length)(hmb:m<b.length)(hl:a.length<10000000)
  (h41:fr.length=41) (h0:nth fr 0=bC a) (h1:nth fr 1=bC b) (h5:nth fr 5 = .sc (.int .i64 (m:Int))) (h:a[m]=b[m]) :
  ∃ fr',ae (CC L) run k jv ⟨fr,[],[]⟩=some (.normal,⟨fr',[],[]⟩)∧fr'.length=41∧nth fr' 0=bC a∧nth fr' 1=bC b∧nth fr' 5 = .sc (.int .i64 ((m:Int) - 1)):=by
 have hw:bA .i64 ((m:Int) - 1)=(m:Int) - 1:=cM m (by omega)
 have hda:=mV (e:=iv) a m hma
 have hdb:=mV (e:=iv) b m hmb
 rw[h] at hda
 generalize b[m]=y at *
 have e1:bC a = .imm a.length false (a.map iv):=rfl
 have e2:bC b = .imm b.length false (b.map iv):=rfl
 have hdg:iv y = .sc (.int .i64 (y:Int)):=rfl
 rw[e1] at h0 ⊢;rw[e2] at h1 ⊢;rw[hdg] at hda hdb
 simp[jv,f118,bd,bn,partOf,h41,h0,h1,h5,sI,aI,hma,hmb,hda,hdb,aU,number,FP.free,hw]
set_option maxHeartbeats 1000000 in
theorem Og(a b:Ω)(m:Nat)(hma:m<a.length)(hmb:m<b.length)(hl:a.length<10000000)
  (h41:fr.length=41) (h0:nth fr 0=bC a) (h1:nth fr 1=bC b) (h5:nth fr 5 = .sc (.int .i64 (m:Int))) (h:a[m]≠b[m]) :
  ∃ fr',ae (CC L) run k jv ⟨fr,[],[]⟩=some (.ret,⟨fr',[],[]⟩)∧fr'.length=41∧nth fr' 4 = .sc (.int .i64 (if a[m]<b[m] then -1 else 1)):=by
 have hda:=mV (e:=iv) a m hma
 have hdb:=mV (e:=iv) b m hmb
 generalize b[m]=y at *
 generalize a[m]=x at *
 have e1:bC a = .imm a.length false (a.map iv):=rfl
 have e2:bC b = .imm b.length false (b.map iv):=rfl
 have hdx:iv x = .sc (.int .i64 (x:Int)):=rfl
 have hdy:iv y = .sc (.int .i64 (y:Int)):=rfl
 rw[e1] at h0;rw[e2] at h1;rw[hdx] at hda;rw[hdy] at hdb
 by_cases hxy:x<y
 ·simp[jv,f118,bd,bn,partOf,h41,h0,h1,h5,sI,aI,hma,hmb,hda,hdb,aU,number,FP.free,hxy]
 ·have hyx:y<x:=by omega
  simp[jv,f118,bd,bn,partOf,h41,h0,h1,h5,sI,aI,hma,hmb,hda,hdb,aU,number,FP.free,hxy,hyx]
theorem um (L:Lst)(run:aw)(k:Nat)(a b:Ω)(hab:a.length=b.length)(hl:a.length<10000000)(ha:T.Dok a)(hb:T.Dok b):∀ (m:Nat) (fr:Ψ),m≤a.length →
  fr.length=41→nth fr 0=bC a→nth fr 1=bC b→nth fr 5 = .sc (.int .i64 ((m:Int) - 1))→a.drop m=b.drop m →
  (∃ fr',cb (ae (CC L) run k jv) (m+1) ⟨fr,[],[]⟩=some (.exit 0,⟨fr',[],[]⟩)∧fr'.length=41∧dS (T.val a) (T.val b)=0) ∨
  (∃ fr',cb (ae (CC L) run k jv) (m+1) ⟨fr,[],[]⟩=some (.ret,⟨fr',[],[]⟩)∧nth fr' 4 = .sc (.int .i64 (dS (T.val a) (T.val b))))
 | 0,fr,hm,h41,h0,h1,h5,hd=>by
  obtain⟨fr',g1,g2⟩:=HR L run k fr h41 h5
  refine .inl ⟨fr',bu g1,g2,?_⟩
  simp at hd
  simp[dS,hd]
 | m+1,fr,hm,h41,h0,h1,h5,hd=>by
  have h5':nth fr 5 = .sc (.int .i64 (m:Int)):=by rw[h5];simp
  have hmb:m<b.length:=by omega
  have hma:m<a.length:=by omega
  by_cases h:a[m]=b[m]
  ·obtain⟨fr1,g1,g2,g3,g4,g5⟩:=Oh L run k fr a b m hma hmb hl h41 h0 h1 h5' h
   have hd':a.drop m=b.drop m:=by rw[drop_eq_getElem_cons hma,drop_eq_getElem_cons hmb,hd,h]
   rw[bT g1]
   exact um L run k a b hab hl ha hb m fr1 (by omega) g2 g3 g4 g5 hd'
  ·obtain⟨fr1,g1,g2,g3⟩:=Og L run k fr a b m hma hmb hl h41 h0 h1 h5' h
   refine .inr ⟨fr1,du g1,?_⟩
   rw[g3]
   by_cases hxy:a[m]<b[m]
   ·have:=T.lL ha hma hmb hd hxy
    rw[if_pos hxy,dS,if_pos this]
   ·have:=T.lL hb hmb hma hd.symm (by omega)
    rw[if_neg hxy,dS,if_neg (by omega),if_neg (by omega)]
def kV (a b:Ω):Int:=if a.length<b.length then -1 else if b.length<a.length then 1 else dS (T.val a) (T.val b)
theorem Ek(a b:Ω)(h:a.length≠b.length) :
  ∃ st,ae (CC L) run k gC ⟨entry 41 [bC a,bC b],[],[]⟩=some (.ret,st)∧aX TT st.fr st.hp f118.results.toList=some [Ab.bN (kV a b)]:=by
 by_cases hx:a.length<b.length
 ·simp[gC,f118,entry,nth,eX,Gh,dP,h,hx,aX,kV,Ab.bN]
 ·have:b.length<a.length:=by omega
  simp[gC,f118,entry,nth,eX,Gh,dP,h,hx,this,aX,kV,Ab.bN]
theorem Ej (L:Lst)(run:aw)(k:Nat)(a b:Ω)(h:a.length=b.length)(hl:a.length<10000000) :
  ∃ fr,bh (CC L) run k 2 gC ⟨entry 41 [bC a,bC b],[],[]⟩=some ⟨fr,[],[]⟩∧fr.length=41∧nth fr 0=bC a∧nth fr 1=bC b:=by
 simp[gC,f118,bh,entry,nth,eX,dP,h]
def xe:Code:=seq1 (seq1 (ai 2 gC))
theorem re:ai 2 gC = .seq (.seq xe (.block 0 (.loop jv))) (ai 3 gC):=rfl
theorem Oe(a b:Ω)(hl:a.length<10000000)(h41:fr.length=41)(h0:nth fr 0=bC a)(h1:nth fr 1=bC b) :
  ∃ fr',ae (CC L) run k xe ⟨fr,[],[]⟩=some (.normal,⟨fr',[],[]⟩)∧fr'.length=41∧nth fr' 0=bC a∧nth fr' 1=bC b∧nth fr' 5 = .sc (.int .i64 ((a.length:Int) - 1)):=by
 have hw:bA .i64 ((a.length:Int) - 1)=(a.length:Int) - 1:=cM _ (by omega)
 simp[xe,gC,seq1,f118,dP,h41,h0,h1,hw]
theorem Em(h41:fr.length=41) :
  ∃ st,ae (CC L) run k (ai 3 gC) ⟨fr,[],[]⟩=some (.ret,st)∧aX TT st.fr st.hp f118.results.toList=some [Ab.bN 0]:=by
 simp[gC,f118,h41,aX,Ab.bN]
def kW:Ψ→Option Ψ
 | [p,q]=>match nH p,nH q with
  | some a,some b=>some [Ab.bN (kV a b)]
  | _,_=>none
 | _=>none
theorem uk:Ab.Spec base.P 118 kW:=Ab.Spec.bS (C:=CC []) (cR trivial) fun args rs h=>by
 unfold kW at h
 split at h
 ·split at h
  ·rename_i a b ea eb
   obtain⟨rfl,ha,hla⟩:=gh ea
   obtain⟨rfl,hb,hlb⟩:=gh eb
   simp only[OiE] at h
   subst h
   by_cases hab:a.length=b.length
   ·obtain⟨fr1,h1,h2,h3,h4⟩:=Ej [] (runK (CC []) (a.length+1)) (a.length+1) a b hab hla
    obtain⟨fr2,g1,g2,g3,g4,g5⟩:=Oe [] (runK (CC []) (a.length+1)) (a.length+1) fr1 a b hla h2 h3 h4
    have hs:kV a b=dS (T.val a) (T.val b):=by simp[kV,hab]
    rcases um [] (runK (CC []) (a.length+1)) (a.length+1) a b hab hla ha hb a.length fr2 (Nat.le_refl _) g2 g3 g4 g5 (by simp[hab]) with ⟨fr3,q1,q2,q3⟩| ⟨fr3,q1,q2⟩
    ·obtain⟨st,e1,e2⟩:=Em [] (runK (CC []) (a.length+1)) (a.length+1) fr3 q2
     have hx:ae (CC []) (runK (CC []) (a.length+1)) (a.length+1) gC ⟨entry 41 [bC a,bC b],[],[]⟩=some (.ret,st):=by
      rw[aY 2 h1,re,ar ((ar g1).trans (bE q1))]
      exact e1
     rw[hs,q3]
     exact⟨a.length+2,_,_,_,_,_,ba oM rfl hx e2,eD _ _,Wk.refl rfl,trivial⟩
    ·have hx:ae (CC []) (runK (CC []) (a.length+1)) (a.length+1) gC ⟨entry 41 [bC a,bC b],[],[]⟩=some (.ret,⟨fr3,[],[]⟩):=by
      rw[aY 2 h1,re,bO ((ar g1).trans (cJ q1))]
     have e2:aX TT fr3 [] f118.results.toList=some [Ab.bN (dS (T.val a) (T.val b))]:=by
      simp[f118,aX,q2,Ab.bN]
     rw[hs]
     exact⟨a.length+2,_,_,_,_,_,ba oM rfl hx e2,eD _ _,Wk.refl rfl,trivial⟩
   ·obtain⟨st,e1,e2⟩:=Ek [] (runK (CC []) 1) 1 a b hab
    exact⟨2,_,_,_,_,_,ba oM rfl e1 e2,eD _ _,Wk.refl rfl,trivial⟩
  ·cases h
 ·cases h
theorem nG (n:Nat):fY TT 24 1 [(0,iv n)]=some (1,[iv n]):=agN uL sI zI n
def lA:Code:=((f117.body).bind aA).getD .skip
def mF:Code:=f117.body.getD .skip
theorem Ak(a b:Ω)(i:Nat)(h54:fr.length=54)(h0:nth fr 0=bC a)(h1:nth fr 1=bC b)(h6:nth fr 6=iv 0)(h7:nth fr 7=iv i)
  (ha:a.length≤i) (hb:b.length≤i) :
  ∃ fr',ae (CC L) run k lA ⟨fr,hp,wr⟩=some (.exit 0,⟨fr',hp,wr⟩)∧fr'.length=54∧nth fr' 5=nth fr 5:=by
 have e1 : ¬ (i<a.length):=by omega
 have e2 : ¬ (i<b.length):=by omega
 simp only[iv] at h6 h7
 simp[lA,f117,dP,h54,h0,h1,h6,h7,e1,e2]
set_option maxHeartbeats 4000000 in
theorem uj(a b out:Ω)(i c s:Nat)(ha:T.Dok a)(hb:T.Dok b)(hc:c≤1)(hgo:i<a.length∨i<b.length∨0<c)(hi9:i<20000000)
  (h54:fr.length=54) (h0:nth fr 0=bC a) (h1:nth fr 1=bC b) (h6:nth fr 6=iv c) (h7:nth fr 7=iv i) (hO:dt iv 0 hp out (nth fr 5)) (ho:out.length=i) (hs:s=c+at0 a i+at0 b i) :
  ∃ fr' hp' wr',ae (CC L) run k lA ⟨fr,hp,wr⟩=some (.normal,⟨fr',hp',wr'⟩)∧fr'.length=54∧nth fr' 0=bC a∧nth fr' 1=bC b∧nth fr' 6=iv (s / 10)∧nth fr' 7=iv (i+1)∧dt iv 0 hp' (out++[s % 10]) (nth fr' 5):=by
 have ha9:=T.cn ha i
 have hb9:=T.cn hb i
 obtain⟨s1,hs1⟩:∃ s1,s1=c+at0 a i:=⟨_,rfl⟩
 rw[← hs1] at hs
 obtain⟨q,hq⟩:∃ q,q=s / 10:=⟨_,rfl⟩
 obtain⟨r,hr⟩:∃ r,r=s % 10:=⟨_,rfl⟩
 obtain⟨p',hp',fp,g1,g2,-⟩:=hO.app r (by omega)
 have hw1:=dm .i64 c (at0 a i) s1 hs1 (hiI (by omega))
 have hw2:=dm .i64 s1 (at0 b i) s hs (hiI (by omega))
 have hw3:bA .i64 ((s:Int) / 10)=(q:Int):=T.jO .i64 s q hq (hiI (by omega))
 have hw4:=T.lQ s r hr
 have hwi:=bD i (by omega)
 rw[← hq,← hr]
 have e1:bC a = .imm a.length false (a.map iv):=rfl
 have e2:bC b = .imm b.length false (b.map iv):=rfl
 rw[e1] at h0 ⊢;rw[e2] at h1 ⊢
 simp only[iv] at h6 h7 ⊢
 by_cases hia:i<a.length
 ·have hda:=fE a i hia
  by_cases hib:i<b.length
  ·have hdb:=fE b i hib
   generalize at0 a i=x at *
   generalize at0 b i=y at *
   simp[lA,f117,bd,bn,partOf,and_assoc,cP,bg,dQ,h54,h0,h1,h6,h7,sI,aI,bI,zI,aU,hia,hib,hda,hdb,hw1,hw2,hw3,hw4,hwi,qW r,nG,lT,iW,ch,g1,g2]
  ·rw[jq (Nat.le_of_not_lt hib)] at hs
   have:s1=s:=by omega
   subst this
   generalize at0 a i=x at *
   simp[lA,f117,bd,bn,partOf,and_assoc,cP,bg,dQ,h54,h0,h1,h6,h7,sI,aI,bI,zI,aU,hia,hib,hda,hw1,hw3,hw4,hwi,qW r,nG,lT,iW,ch,g1,g2]
 ·rw[jq (Nat.le_of_not_lt hia)] at hs1
  have:s1=c:=by omega
  subst this
  by_cases hib:i<b.length
  ·have hdb:=fE b i hib
   generalize at0 b i=y at *
   simp[lA,f117,bd,bn,partOf,and_assoc,cP,bg,dQ,h54,h0,h1,h6,h7,sI,aI,bI,zI,aU,hia,hib,hdb,hw2,hw3,hw4,hwi,qW r,nG,lT,iW,ch,g1,g2]
  ·rw[jq (Nat.le_of_not_lt hib)] at hs
   have:s1=s:=by omega
   subst this
   have hc0:0<s1:=by omega
   simp[lA,f117,and_assoc,cP,bg,dQ,h54,h0,h1,h6,h7,sI,bI,zI,hia,hib,hc0,hw3,hw4,hwi,qW r,nG,lT,iW,ch,g1,g2]
theorem xa {va vb vo x c y P s q r:Nat}(h:vo+c*P=va+vb)(hs:s=c+x+y)(hq:q=s / 10)(hr:r=s % 10) :
  vo+P*r+q*(P*10)=va+x*P+(vb+y*P):=by
 have e:s=r+10*q:=by omega
 have e2:s*P=(r+10*q)*P:=by rw[e]
 subst hs
 simp only[Nat.add_mul] at e2 ⊢
 have e3:10*q*P=q*(P*10):=by grind
 have e4:r*P=P*r:=Nat.mul_comm _ _
 omega
theorem wZ (L:Lst)(run:aw)(k:Nat)(a b:Ω)(ha:T.Dok a)(hb:T.Dok b)(i n:Nat)(fr:Ψ)(hp:Θ)(wr:Ω)(out:Ω)(c:Nat)(hia:a.length≤i)(hib:b.length≤i)(hi:i<20000000)
  (h54:fr.length=54) (h0:nth fr 0=bC a) (h1:nth fr 1=bC b) (h6:nth fr 6=iv c) (h7:nth fr 7=iv i) (hO:dt iv 0 hp out (nth fr 5)) (ho:out.length=i) (hd:T.Dok out) (hc:c≤1) (hv:T.val out+c*10 ^ i=T.val (a.take i)+T.val (b.take i)) :
  ∃ (fr':Ψ) (hp':Θ) (wr':Ω) (out':Ω),cb (ae (CC L) run k lA) (n+2) ⟨fr,hp,wr⟩=some (.exit 0,⟨fr',hp',wr'⟩)∧fr'.length=54∧dt iv 0 hp' out' (nth fr' 5)∧T.Dok out'∧T.val out'=T.val a+T.val b∧out'.length=i+c:=by
 by_cases hc0:c=0
 ·subst hc0
  obtain⟨fr',q1,q2,q3⟩:=Ak L run k fr hp wr a b i h54 h0 h1 h6 h7 hia hib
  refine⟨fr',hp,wr,out,bu q1,q2,by rw[q3];exact hO,hd,?_,ho⟩
  rw[T.cD a _ hia,T.cD b _ hib] at hv
  omega
 ·obtain⟨fr1,hp1,wr1,g1,g2,g3,g4,g5,g6,g7⟩:=uj L run k fr hp wr a b out i c _ ha hb hc (.inr (.inr (by omega))) hi h54 h0 h1 h6 h7 hO ho rfl
  have hv':T.val (out++[(c+at0 a i+at0 b i) % 10])+(c+at0 a i+at0 b i) / 10*10 ^ (i+1)=T.val (a.take (i+1))+T.val (b.take (i+1)):=by
   rw[T.cu,T.cu,T.dF,ho,Nat.pow_succ]
   exact xa hv rfl rfl rfl
  have e1:at0 a i=0:=jq hia
  have e2:at0 b i=0:=jq hib
  have e3:(c+at0 a i+at0 b i) / 10=0:=by omega
  rw[e3] at g5 hv'
  obtain⟨fr',q1,q2,q3⟩:=Ak L run k fr1 hp1 wr1 a b (i+1) g2 g3 g4 g5 g6 (by omega) (by omega)
  refine⟨fr',hp1,wr1,_,by rw[bT g1];exact bu q1,q2,by rw[q3];exact g7,hd.append (T.Dok.nil.cons (Nat.mod_lt _ (by omega))),?_,by simp;omega⟩
  rw[T.cD a _ (by omega),T.cD b _ (by omega)] at hv'
  omega
theorem mh (a b:Ω):Nat.max a.length b.length≤a.length+b.length∧a.length≤Nat.max a.length b.length∧b.length≤Nat.max a.length b.length∧(Nat.max a.length b.length=a.length∨Nat.max a.length b.length=b.length):=by
 rcases Nat.le_total a.length b.length with h | h
 ·have:Nat.max a.length b.length=b.length:=Nat.max_eq_right h
  omega
 ·have:Nat.max a.length b.length=a.length:=Nat.max_eq_left h
  omega
theorem KY {a b out:Ω}{i c:Nat}(hia:a.length≤i)(hib:b.length≤i)(hi:i≤Nat.max a.length b.length)(hd:T.Dok out)(ho:out.length=i)(hc:c≤1)(hv:T.val out+c*10 ^ i=T.val (a.take i)+T.val (b.take i)) :
  i+c=Nat.max a.length b.length+(if 10 ^ Nat.max a.length b.length≤T.val a+T.val b then 1 else 0):=by
 have hm:=mh a b
 have e:Nat.max a.length b.length=i:=by omega
 rw[e]
 rw[T.cD a _ hia,T.cD b _ hib] at hv
 have h1:=T.eW hd
 rw[ho] at h1
 have:c=0∨c=1:=by omega
 rcases this with h | h
 ·subst h
  rw[if_neg (by omega)]
 ·subst h
  rw[if_pos (by omega)]
theorem xb (L:Lst)(run:aw)(k:Nat)(a b:Ω)(ha:T.Dok a)(hb:T.Dok b)(hla:a.length<10000000)(hlb:b.length<10000000):∀ (n i:Nat) (fr:Ψ) (hp:Θ) (wr:Ω) (out:Ω) (c:Nat),a.length≤i+n→b.length≤i+n→i≤Nat.max a.length b.length →
  fr.length=54→nth fr 0=bC a→nth fr 1=bC b→nth fr 6=iv c→nth fr 7=iv i→dt iv 0 hp out (nth fr 5)→out.length=i→T.Dok out→c≤1→T.val out+c*10 ^ i=T.val (a.take i)+T.val (b.take i) →
  ∃ (fr':Ψ) (hp':Θ) (wr':Ω) (out':Ω),cb (ae (CC L) run k lA) (n+2) ⟨fr,hp,wr⟩=some (.exit 0,⟨fr',hp',wr'⟩)∧fr'.length=54∧dt iv 0 hp' out' (nth fr' 5)∧T.Dok out'∧T.val out'=T.val a+T.val b∧out'.length=Nat.max a.length b.length+(if 10 ^ Nat.max a.length b.length≤T.val a+T.val b then 1 else 0)
 | 0,i,fr,hp,wr,out,c,hia,hib,hi,h54,h0,h1,h6,h7,hO,ho,hd,hc,hv=>by
  obtain⟨fr',hp',wr',out',q1,q2,q3,q4,q5,q6⟩:=wZ L run k a b ha hb i 0 fr hp wr out c hia hib (by have:=mh a b;omega) h54 h0 h1 h6 h7 hO ho hd hc hv
  exact⟨fr',hp',wr',out',q1,q2,q3,q4,q5,q6.trans (KY hia hib hi hd ho hc hv)⟩
 | n+1,i,fr,hp,wr,out,c,hia,hib,hi,h54,h0,h1,h6,h7,hO,ho,hd,hc,hv=>by
  by_cases hgo:i<a.length∨i<b.length
  ·have hx:=T.cn ha i
   have hy:=T.cn hb i
   obtain⟨fr1,hp1,wr1,g1,g2,g3,g4,g5,g6,g7⟩:=uj L run k fr hp wr a b out i c _ ha hb hc (by omega) (by have:=mh a b;omega) h54 h0 h1 h6 h7 hO ho rfl
   have hv':T.val (out++[(c+at0 a i+at0 b i) % 10])+(c+at0 a i+at0 b i) / 10*10 ^ (i+1)=T.val (a.take (i+1))+T.val (b.take (i+1)):=by
    rw[T.cu,T.cu,T.dF,ho,Nat.pow_succ]
    exact xa hv rfl rfl rfl
   obtain⟨fr',hp',wr',out',q1,q2⟩:=xb L run k a b ha hb hla hlb n (i+1) fr1 hp1 wr1 _ _ (by omega) (by omega) (by have:=mh a b;omega) g2 g3 g4 g5 g6 g7 (by simp[ho]) (hd.append (T.Dok.nil.cons (Nat.mod_lt _ (by omega)))) (by omega) hv'
   exact⟨fr',hp',wr',out',by rw[bT g1];exact q1,q2⟩
  ·obtain⟨fr',hp',wr',out',q1,q2,q3,q4,q5,q6⟩:=wZ L run k a b ha hb i (n+1) fr hp wr out c (by omega) (by omega) (by have:=mh a b;omega) h54 h0 h1 h6 h7 hO ho hd hc hv
   exact⟨fr',hp',wr',out',q1,q2,q3,q4,q5,q6.trans (KY (by omega) (by omega) hi hd ho hc hv)⟩
def HQ:Code:=seq1 (seq1 (ai 3 mF))
theorem Ei:ai 3 mF = .seq (.seq HQ (.block 0 (.loop lA))) (ai 4 mF):=rfl
theorem Od (L:Lst)(run:aw)(k:Nat)(p q:PV) :
  ∃ fr,bh (CC L) run k 3 mF ⟨entry 54 [p,q],[],[]⟩=some ⟨fr,[],[]⟩∧fr.length=54∧nth fr 0=p∧nth fr 1=q∧nth fr 5 = .sc (.slice none 0 0)∧nth fr 6=iv 0:=by
 obtain⟨e1,e2,e3⟩:=cl 52 p q
 generalize entry 54 [p,q]=fr0 at *
 simp[mF,f117,bh,e1,e2,e3,iv]
theorem aa8(h54:fr.length=54) :
  ∃ fr',ae (CC L) run k HQ ⟨fr,hp,wr⟩=some (.normal,⟨fr',hp,wr⟩)∧fr'.length=54∧nth fr' 0=nth fr 0∧nth fr' 1=nth fr 1∧nth fr' 5=nth fr 5∧nth fr' 6=nth fr 6∧nth fr' 7=iv 0:=by
 simp[HQ,mF,seq1,f117,h54,iv]
theorem HP(p:PV)(h54:fr.length=54)(h5:nth fr 5=p) :
  ∃ st,ae (CC L) run k (ai 4 mF) ⟨fr,hp,wr⟩=some (.ret,st)∧aX TT st.fr st.hp f117.results.toList=some [p]∧st.hp=hp:=by
 simp[mF,f117,h54,h5,aX]
def yT (a b:Ω):Ω:=T.cZ (Nat.max a.length b.length+(if 10 ^ Nat.max a.length b.length≤T.val a+T.val b then 1 else 0)) (T.val a+T.val b)
def xd:Ψ→Option Ψ
 | [p,q]=>match nH p,nH q with
  | some a,some b=>some [bC (yT a b)]
  | _,_=>none
 | _=>none
theorem HO:Ab.Spec base.P 117 xd:=Ab.Spec.bS (C:=CC []) (cR trivial) fun args rs h=>by
 unfold xd at h
 split at h
 ·split at h
  ·rename_i a b ea eb
   obtain⟨rfl,ha,hla⟩:=gh ea
   obtain⟨rfl,hb,hlb⟩:=gh eb
   simp only[OiE] at h
   subst h
   obtain⟨fr0,h1,h2,h3,h4,h5,h6⟩:=Od [] (runK (CC []) (a.length+b.length+2)) (a.length+b.length+2) (bC a) (bC b)
   obtain⟨fr1,g1,g2,g3,g4,g5,g6,g7⟩:=aa8 [] (runK (CC []) (a.length+b.length+2)) (a.length+b.length+2) fr0 [] [] h2
   obtain⟨fr2,hp2,wr2,out,q1,q2,q3,q4,q5,q6⟩:=xb [] (runK (CC []) (a.length+b.length+2)) (a.length+b.length+2) a b ha hb hla hlb (a.length+b.length) 0 fr1 [] [] [] 0 (by omega) (by omega) (by omega) g2 (by rw[g3,h3]) (by rw[g4,h4]) (by rw[g6,h6]) g7 (by rw[g5,h5];exact dt.nil (Nat.le_refl _)) rfl T.Dok.nil (by omega) (by simp[T.val])
   obtain⟨st,e1,e2,e3⟩:=HP [] (runK (CC []) (a.length+b.length+2)) (a.length+b.length+2) fr2 hp2 wr2 _ q2 rfl
   have hx:ae (CC []) (runK (CC []) (a.length+b.length+2)) (a.length+b.length+2) mF ⟨entry 54 [bC a,bC b],[],[]⟩=some (.ret,st):=by
    rw[aY 3 h1,Ei,ar ((ar g1).trans (bE q1))]
    exact e1
   have hout:out=yT a b:=q4.qj q6 q5
   obtain⟨rs2,ids,r1,r2⟩:=q3.s.IG jl
   rw[hout] at r2
   exact⟨a.length+b.length+3,_,_,_,rs2,ids,ba J5 rfl hx e2,by rw[e3];exact r1,r2⟩
  ·cases h
 ·cases h
theorem tB {L:Lst}{g:Nat}{f:Ψ→Option Ψ}(hs:base.shared g=false)(ho:bx L g=fun a=>f (aK a))(run:aw)(dr:Bool){α:Type}{e:α→PV}(he:Sc1 e){b:Nat}{hp:Θ}{l:List α}{p:PV}
  (hO:kd e b hp l p) (rs:Ψ) (h3:f [mX e l]=some rs):∃ hp' fp,bP (CC L) run dr hp g [p]=some (jm rs,hp',fp)∧(∀ i,i<b→aL hp' i=aL hp i)∧hp'.length=hp.length:=by
 obtain⟨q,ids,h1,h2,h4⟩:=hO.arg he
 have h5:bw (snap hp bq) [p]=some ([q],ids++[]):=by
  show bw (snap hp 12) _=_
  simp only[bw,h1]
 have h6:(CC L).orc g [q]=some rs:=by
  show bx L g [q]=_
  rw[ho];show f (aK [q])=_
  simp only[aK,h2,h3]
 rw[append_nil] at h5
 by_cases h:rs.all eh=true
 ·exact⟨_,_,pA hs h5 h6 h,fun _ _=>rfl,rfl⟩
 ·exact⟨_,_,eJ hs h5 h6 (by simpa using h),h4,ff _ _⟩
theorem pz {L:Lst}{g:Nat}{f:Ψ→Option Ψ}(hs:base.shared g=false)(ho:bx L g=fun a=>f (aK a))(run:aw)(dr:Bool){α:Type}{e:α→PV}(he:Sc1 e){b:Nat}{hp:Θ}{l:List α}{p:PV}(x:Bool)
  (hO:kd e b hp l p) (rs:Ψ) (h3:f [.sc (.bool x),mX e l]=some rs):∃ hp' fp,bP (CC L) run dr hp g [.sc (.bool x),p]=some (jm rs,hp',fp)∧∀ i,i<b→aL hp' i=aL hp i:=by
 obtain⟨q,ids,h1,h2,h4⟩:=hO.arg he
 have h5:bw (snap hp bq) [.sc (.bool x),p]=some ([.sc (.bool x),q],[]++(ids++[])):=by
  show bw (snap hp 12) _=_
  simp only[bw,h1]
  rfl
 have h6:(CC L).orc g [.sc (.bool x),q]=some rs:=by
  show bx L g [.sc (.bool x),q]=_
  rw[ho];show f (aK [.sc (.bool x),q])=_
  simp only[aK,h2]
  exact h3
 rw[append_nil,nil_append] at h5
 by_cases h:rs.all eh=true
 ·exact⟨_,_,pA hs h5 h6 h,fun _ _=>rfl⟩
 ·exact⟨_,_,eJ hs h5 h6 (by simpa using h),h4⟩
def LT1:Lst:=[(156,iQ)]
theorem JZ:dE base.P LT1:=⟨ud,trivial⟩
theorem xI:bx LT1 156=fun a=>iQ (aK a):=rfl
def mH:Code:=((f119.body).bind aA).getD .skip
def mG:Code:=f119.body.getD .skip
theorem OB(a:Ω)(h41:fr.length=41)(h0:nth fr 0=bC a)(h7:nth fr 7=iv a.length) :
  ∃ fr',ae (CC L) run k mH ⟨fr,hp,wr⟩=some (.exit 0,⟨fr',hp,wr⟩)∧fr'.length=41∧nth fr' 5=nth fr 5:=by
 simp only[iv] at h7
 simp[mH,f119,dP,h41,h0,h7]
set_option maxHeartbeats 4000000 in
theorem Ev(a b out:Ω)(i c X c':Nat)(ha:T.Dok a)(hb:T.Dok b)(hc:c≤1)(hi:i<a.length)(hi9:i<20000000)
  (hX:(at0 b i+c≤at0 a i∧X=at0 a i - (at0 b i+c)∧c'=0)∨(at0 a i<at0 b i+c∧X=at0 a i+10 - (at0 b i+c)∧c'=1))
  (h41:fr.length=41) (h0:nth fr 0=bC a) (h1:nth fr 1=bC b) (h6:nth fr 6=iv c) (h7:nth fr 7=iv i) (hO:dt iv 0 hp out (nth fr 5)) (ho:out.length=i) :
  ∃ fr' hp' wr',ae (CC L) run k mH ⟨fr,hp,wr⟩=some (.normal,⟨fr',hp',wr'⟩)∧fr'.length=41∧nth fr' 0=bC a∧nth fr' 1=bC b∧nth fr' 6=iv c'∧nth fr' 7=iv (i+1)∧dt iv 0 hp' (out++[X]) (nth fr' 5):=by
 have ha9:=T.cn ha i
 have hb9:=T.cn hb i
 obtain⟨p',hp',fp,g1,g2,-⟩:=hO.app X (by omega)
 have hlX:fY TT 24 1 [(0,.sc (.int .i64 (X:Int)))]=some (1,[iv X]):=nG X
 obtain⟨z1,hz1⟩:∃ z1,z1=(at0 a i:Int) - (c:Int):=⟨_,rfl⟩
 have hw1:bA .i64 ((at0 a i:Int) - (c:Int))=z1:=by rw[hz1];exact fm _ (by omega) (by omega)
 obtain⟨z,hz⟩:∃ z,z=z1 - (at0 b i:Int):=⟨_,rfl⟩
 have hw2:bA .i64 (z1 - (at0 b i:Int))=z:=by rw[hz];exact fm _ (by omega) (by omega)
 have hwi:=bD i (by omega)
 have e1:bC a = .imm a.length false (a.map iv):=rfl
 have e2:bC b = .imm b.length false (b.map iv):=rfl
 rw[e1] at h0 ⊢;rw[e2] at h1 ⊢
 have hda:=fE a i hi
 simp only[iv] at h6 h7 ⊢
 by_cases hib:i<b.length
 ·have hdb:=fE b i hib
  generalize at0 a i=x at *
  generalize at0 b i=y at *
  rcases hX with ⟨hA,hB,hC⟩| ⟨hA,hB,hC⟩
  ·have e3:z=(X:Int):=by omega
   have e4 : ¬ ((X:Int)<0):=by omega
   subst hC
   rw[e3] at hw2
   simp[mH,f119,bd,bn,partOf,and_assoc,cP,bg,dQ,h41,h0,h1,h6,h7,sI,aI,bI,zI,aU,hi,hib,hda,hdb,hw1,hw2,e4,hwi,hlX,lT,iW,ch,g1,g2]
  ·have e3:z<0:=by omega
   have e4:bA .i64 (z+10)=(X:Int):=by rw[show z+10=(X:Int) by omega];exact cq .i64 X (hiI (by omega))
   subst hC
   simp[mH,f119,bd,bn,partOf,and_assoc,cP,bg,dQ,h41,h0,h1,h6,h7,sI,aI,bI,zI,aU,hi,hib,hda,hdb,hw1,hw2,e3,e4,hwi,hlX,lT,iW,ch,g1,g2]
 ·rw[jq (Nat.le_of_not_lt hib)] at hX hz
  generalize at0 a i=x at *
  rcases hX with ⟨hA,hB,hC⟩| ⟨hA,hB,hC⟩
  ·have e3:z1=(X:Int):=by omega
   have e4 : ¬ ((X:Int)<0):=by omega
   subst hC
   rw[e3] at hw1
   simp[mH,f119,bd,bn,partOf,and_assoc,cP,bg,dQ,h41,h0,h1,h6,h7,sI,aI,bI,zI,aU,hi,hib,hda,hw1,e4,hwi,hlX,lT,iW,ch,g1,g2]
  ·have e3:z1<0:=by omega
   have e4:bA .i64 (z1+10)=(X:Int):=by rw[show z1+10=(X:Int) by omega];exact cq .i64 X (hiI (by omega))
   subst hC
   simp[mH,f119,bd,bn,partOf,and_assoc,cP,bg,dQ,h41,h0,h1,h6,h7,sI,aI,bI,zI,aU,hi,hib,hda,hw1,e3,e4,hwi,hlX,lT,iW,ch,g1,g2]
theorem Ik {va vb vo c x y P X c':Nat}(h:vo+vb=va+c*P)(hX:(y+c≤x∧X=x - (y+c)∧c'=0)∨(x<y+c∧X=x+10 - (y+c)∧c'=1))(hb:y+c≤10) :
  vo+P*X+(vb+y*P)=va+x*P+c'*(P*10):=by
 have e:X+y+c=x+10*c':=by omega
 have e2:(X+y+c)*P=(x+10*c')*P:=by rw[e]
 simp only[Nat.add_mul] at e2
 have e3:10*c'*P=c'*(P*10):=by grind
 have e4:X*P=P*X:=Nat.mul_comm _ _
 omega
theorem xq (L:Lst)(run:aw)(k:Nat)(a b:Ω)(ha:T.Dok a)(hb:T.Dok b)(hla:a.length<10000000):∀ (n i:Nat) (fr:Ψ) (hp:Θ) (wr:Ω) (out:Ω) (c:Nat),i+n=a.length →
  fr.length=41→nth fr 0=bC a→nth fr 1=bC b→nth fr 6=iv c→nth fr 7=iv i→dt iv 0 hp out (nth fr 5)→out.length=i→T.Dok out→c≤1→T.val out+T.val (b.take i)=T.val (a.take i)+c*10 ^ i →
  ∃ (fr':Ψ) (hp':Θ) (wr':Ω) (out':Ω) (c':Nat),cb (ae (CC L) run k mH) (n+1) ⟨fr,hp,wr⟩=some (.exit 0,⟨fr',hp',wr'⟩)∧fr'.length=41∧dt iv 0 hp' out' (nth fr' 5)∧out'.length=a.length∧T.Dok out'∧c'≤1∧T.val out'+T.val (b.take a.length)=T.val a+c'*10 ^ a.length
 | 0,i,fr,hp,wr,out,c,hin,h41,h0,h1,h6,h7,hO,ho,hd,hc,hv=>by
  have:i=a.length:=by omega
  subst this
  obtain⟨fr',q1,q2,q3⟩:=OB L run k fr hp wr a h41 h0 h7
  exact⟨fr',hp,wr,out,c,bu q1,q2,by rw[q3];exact hO,ho,hd,hc,by rw[hv,take_length]⟩
 | n+1,i,fr,hp,wr,out,c,hin,h41,h0,h1,h6,h7,hO,ho,hd,hc,hv=>by
  have hx:=T.cn ha i
  have hy:=T.cn hb i
  obtain⟨X,c',hX⟩:∃ X c',(at0 b i+c≤at0 a i∧X=at0 a i - (at0 b i+c)∧c'=0)∨(at0 a i<at0 b i+c∧X=at0 a i+10 - (at0 b i+c)∧c'=1):=by
   rcases Nat.lt_or_ge (at0 a i) (at0 b i+c) with h | h
   ·exact⟨_,_,.inr ⟨h,rfl,rfl⟩⟩
   ·exact⟨_,_,.inl ⟨h,rfl,rfl⟩⟩
  obtain⟨fr1,hp1,wr1,g1,g2,g3,g4,g5,g6,g7⟩:=Ev L run k fr hp wr a b out i c X c' ha hb hc (by omega) (by omega) hX h41 h0 h1 h6 h7 hO ho
  obtain⟨fr',hp',wr',out',c'',q1,q2⟩:=xq L run k a b ha hb hla n (i+1) fr1 hp1 wr1 _ _ (by omega) g2 g3 g4 g5 g6 g7 (by simp[ho]) (hd.append (T.Dok.nil.cons (by omega))) (by omega) (by
   rw[T.cu,T.cu,T.dF,ho,Nat.pow_succ]
   exact Ik hv hX (by omega))
  exact⟨fr',hp',wr',out',c'',by rw[bT g1];exact q1,q2⟩
def Im:Code:=seq1 (seq1 (ai 3 mG))
theorem Eu:ai 3 mG = .seq (.seq Im (.block 0 (.loop mH))) (ai 4 mG):=rfl
theorem OA (L:Lst)(run:aw)(k:Nat)(p q:PV) :
  ∃ fr,bh (CC L) run k 3 mG ⟨entry 41 [p,q],[],[]⟩=some ⟨fr,[],[]⟩∧fr.length=41∧nth fr 0=p∧nth fr 1=q∧nth fr 5 = .sc (.slice none 0 0)∧nth fr 6=iv 0:=by
 obtain⟨e1,e2,e3⟩:=cl 39 p q
 generalize entry 41 [p,q]=fr0 at *
 simp[mG,f119,bh,e1,e2,e3,iv]
theorem abl(h41:fr.length=41) :
  ∃ fr',ae (CC L) run k Im ⟨fr,hp,wr⟩=some (.normal,⟨fr',hp,wr⟩)∧fr'.length=41∧nth fr' 0=nth fr 0∧nth fr' 1=nth fr 1∧nth fr' 5=nth fr 5∧nth fr' 6=nth fr 6∧nth fr' 7=iv 0:=by
 simp[Im,mG,seq1,f119,h41,iv]
theorem Il (run:aw)(k:Nat)(fr:Ψ)(hp hp':Θ)(wr:Ω)(p q:PV)(fp:FP)(h41:fr.length=41)(h5:nth fr 5=p)(hc:bP (CC LT1) run false hp 156 [p]=some (q,hp',fp)) :
  ∃ st,ae (CC LT1) run k (ai 4 mG) ⟨fr,hp,wr⟩=some (.ret,st)∧aX TT st.fr st.hp f119.results.toList=some [q]:=by
 simp[mG,f119,aM,h41,h5,hc,aX]
def nX:Ψ→Option Ψ
 | [p,q]=>match nH p,nH q with
  | some a,some b=>bif b.length.ble a.length && (T.val b).ble (T.val a) then some [bC (T.aJ (T.val a - T.val b))] else none
  | _,_=>none
 | _=>none
theorem xp:Ab.Spec base.P 119 nX:=Ab.Spec.bS (C:=CC LT1) (cR JZ) fun args rs h=>by
 unfold nX at h
 split at h
 ·split at h
  ·rename_i a b ea eb
   obtain⟨rfl,ha,hla⟩:=gh ea
   obtain⟨rfl,hb,hlb⟩:=gh eb
   cases hg:b.length.ble a.length && (T.val b).ble (T.val a) with
   | false=>rw[hg] at h;cases h
   | true =>
    rw[hg] at h
    simp only[cond_true,OiE] at h
    subst h
    simp only[Bool.and_eq_true,Nat.ble_eq] at hg
    obtain⟨fr0,h1,h2,h3,h4,h5,h6⟩:=OA LT1 (runK (CC LT1) (a.length+1)) (a.length+1) (bC a) (bC b)
    obtain⟨fr1,g1,g2,g3,g4,g5,g6,g7⟩:=abl LT1 (runK (CC LT1) (a.length+1)) (a.length+1) fr0 [] [] h2
    obtain⟨fr2,hp2,wr2,out,c,q1,q2,q3,q4,q5,q6,q7⟩:=xq LT1 (runK (CC LT1) (a.length+1)) (a.length+1) a b ha hb hla a.length 0 fr1 [] [] [] 0 (by omega) g2 (by rw[g3,h3]) (by rw[g4,h4]) (by rw[g6,h6]) g7 (by rw[g5,h5];exact dt.nil (Nat.le_refl _)) rfl T.Dok.nil (by omega) (by simp[T.val])
    rw[T.cD b _ hg.1] at q7
    have hlt:=T.eW q5
    rw[q4] at hlt
    have hv:T.val out=T.val a - T.val b:=by
     have:c=0∨c=1:=by omega
     rcases this with h | h <;> subst h <;> omega
    obtain⟨hp3,fp,c1,-⟩:=tB lS xI (runK (CC LT1) (a.length+1)) false jl q3.s [bC (T.fi out)] (by
     have:=dR q5 (show out.length<10000000 by omega)
     simp only[bC] at this
     simp only[iQ,this])
    rw[T.eB q5,hv] at c1
    obtain⟨st,e1,e2⟩:=Il (runK (CC LT1) (a.length+1)) (a.length+1) fr2 hp2 hp3 wr2 _ _ fp q2 rfl c1
    have hx:ae (CC LT1) (runK (CC LT1) (a.length+1)) (a.length+1) mG ⟨entry 41 [bC a,bC b],[],[]⟩=some (.ret,st):=by
     rw[aY 3 h1,Eu,ar ((ar g1).trans (bE q1))]
     exact e1
    exact⟨a.length+2,_,_,_,_,_,ba Gx rfl hx e2,pW _ _,Wk.refl rfl,trivial⟩
  ·cases h
 ·cases h
def uC:Code:=((f115.body).bind aA).getD .skip
def rj:Code:=f115.body.getD .skip
theorem u8T:und TT 5=some (.int .u8):=by kernel_rfl
theorem Uu(h37:fr.length=37)(h6:nth fr 6 = .sc (.int .i64 (-1))) :
  ∃ fr',ae (CC L) run k uC ⟨fr,hp,wr⟩=some (.exit 0,⟨fr',hp,wr⟩)∧fr'.length=37∧nth fr' 4=nth fr 4∧nth fr' 5=nth fr 5:=by
 simp[uC,f115,h37,h6]
set_option maxHeartbeats 1000000 in
theorem OC(l:Ω)(i:Nat)(hl:Bok l)(hi:i<l.length)(hi9:i<20000000)(h45:at0 l i=45)(h37:fr.length=37)(h0:nth fr 0 = .sc (.string (tx l)))(h6:nth fr 6=iv i) :
  ∃ fr',ae (CC L) run k uC ⟨fr,hp,wr⟩=some (.normal,⟨fr',hp,wr⟩)∧fr'.length=37∧nth fr' 0 = .sc (.string (tx l))∧nth fr' 4=nth fr 4∧nth fr' 5=nth fr 5∧nth fr' 6 = .sc (.int .i64 ((i:Int) - 1)):=by
 have hx:=fe uAI hl .i64 i hi
 have hw:=cM i (by omega)
 rw[h45] at hx
 simp only[iv] at h6
 simp[uC,f115,h37,h0,h6,hx,hw]
set_option maxHeartbeats 1000000 in
theorem abm(l out:Ω)(i:Nat)(hl:Bok l)(hi:i<l.length)(hi9:i<20000000)(h45:l9 (at0 l i)=true)(ho9:out.length<20000000)(h37:fr.length=37)(h0:nth fr 0 = .sc (.string (tx l)))(h6:nth fr 6=iv i)(hO:dt iv 0 hp out (nth fr 5)) :
  ∃ fr' hp' wr',ae (CC L) run k uC ⟨fr,hp,wr⟩=some (.normal,⟨fr',hp',wr'⟩)∧fr'.length=37∧nth fr' 0 = .sc (.string (tx l))∧nth fr' 4=nth fr 4∧dt iv 0 hp' (out++[dv (at0 l i)]) (nth fr' 5)∧nth fr' 6 = .sc (.int .i64 ((i:Int) - 1)):=by
 have hx:=fe uAI hl .i64 i hi
 rw[dI] at h45
 generalize at0 l i=b at *
 obtain⟨d,hd⟩:∃ d,d=dv b:=⟨_,rfl⟩
 rw[← hd]
 have hd2:b=d+48:=by rw[hd];unfold dv;omega
 obtain⟨p',hp',fp,g1,g2,-⟩:=hO.app d (by omega)
 have hw:=cM i (by omega)
 have hw1:=cq .i64 b (hiI (by omega))
 have hw2:=Bv .i64 b d hd2 (hiI (by omega))
 have hne:((b:Int) == 45)=false:=by rw[beq_eq_false_iff_ne];omega
 have hne2 : ¬ ((b:Int)=45):=by omega
 have hlX:fY TT 24 1 [(0,.sc (.int .i64 (d:Int)))]=some (1,[iv d]):=nG d
 simp only[iv] at h6
 simp[uC,f115,and_assoc,bg,dQ,h37,h0,h6,hx,hne,bne,u8T,uI,dD,hw,hw1,hw2,hlX,lT,iW,sI,bI,zI,ch,g1,g2]
theorem td (L:Lst)(run:aw)(k:Nat)(m:Bool)(ds:Ω)(hd:eI ds=true)(hl9:ds.length<10000000):∀ (n:Nat) (fr:Ψ) (hp:Θ) (wr:Ω) (out:Ω),n≤((bif m then [45] else [])++ds).length →
  fr.length=37→nth fr 0 = .sc (.string (tx ((bif m then [45] else [])++ds)))→nth fr 6 = .sc (.int .i64 ((n:Int) - 1))→dt iv 0 hp out (nth fr 5)→out=dvs (ds.drop (n - (bif m then 1 else 0))) →
  ∃ (fr':Ψ) (hp':Θ) (wr':Ω),cb (ae (CC L) run k uC) (n+1) ⟨fr,hp,wr⟩=some (.exit 0,⟨fr',hp',wr'⟩)∧fr'.length=37∧nth fr' 4=nth fr 4∧dt iv 0 hp' (dvs ds) (nth fr' 5)
 | 0,fr,hp,wr,out,hn,h37,h0,h6,hO,ho=>by
  obtain⟨fr',q1,q2,q3,q4⟩:=Uu L run k fr hp wr h37 (by rw[h6];rfl)
  refine⟨fr',hp,wr,bu q1,q2,q3,?_⟩
  rw[q4]
  simp only[Nat.zero_sub,drop_zero] at ho
  rw[← ho];exact hO
 | n+1,fr,hp,wr,out,hn,h37,h0,h6,hO,ho=>by
  have h6':nth fr 6=iv n:=by rw[h6];simp[iv]
  have hB:Bok ((bif m then [45] else [])++ds):=by
   refine Bok.append ?_ ?_
   ·cases m
    ·exact Bok.nil
    ·exact Bok.nil.cons (by omega)
   ·intro x hx
    have:=dI.1 (fT hd hx)
    omega
  have hlen:((bif m then [45] else [])++ds).length=(bif m then 1 else 0)+ds.length:=by cases m <;> simp;omega
  rw[hlen] at hn
  by_cases hs:m=true∧n=0
  ·obtain⟨rfl,rfl⟩:=hs
   obtain⟨fr1,g1,g2,g3,g4,g5,g6⟩:=OC L run k fr hp wr _ 0 hB (by rw[hlen];simp;omega) (by omega) rfl h37 h0 h6'
   obtain⟨fr',hp',wr',q1,q2,q3,q4⟩:=td L run k true ds hd hl9 0 fr1 hp wr out (by omega) g2 g3 g6 (by rw[g5];exact hO) (by simpa using ho)
   exact⟨fr',hp',wr',by rw[bT g1];exact q1,q2,by rw[q3,g4],q4⟩
  ·obtain⟨j,hj,hj2⟩:∃ j,n=(bif m then 1 else 0)+j∧j<ds.length:=by
    cases m with
    | false=>exact⟨n,by simp,by simp at hn;omega⟩
    | true =>
     have:n≠0:=fun h=>hs ⟨rfl,h⟩
     exact⟨n - 1,by simp;omega,by simp at hn;omega⟩
   have hat:at0 ((bif m then [45] else [])++ds) n=ds[j]:=by
    unfold at0
    cases m with
    | false=>simp only[cond_false,nil_append,Nat.zero_add] at hj ⊢;subst hj;simp[hj2]
    | true=>simp only[cond_true] at hj ⊢;subst hj;rw[Nat.add_comm];simp[hj2]
   have hdb:l9 (at0 ((bif m then [45] else [])++ds) n)=true:=by rw[hat];exact fT hd (getElem_mem hj2)
   have hdr:n+1 - (bif m then 1 else 0)=j+1:=by rw[hj];cases m <;> simp <;> omega
   have hdr2:n - (bif m then 1 else 0)=j:=by rw[hj];cases m <;> simp
   rw[hdr] at ho
   have hol:out.length<20000000:=by rw[ho,mY,length_drop];omega
   have hn9:n<20000000:=by cases m <;> simp at hn <;> omega
   obtain⟨fr1,hp1,wr1,g1,g2,g3,g4,g5,g6⟩:=abm L run k fr hp wr _ out n hB (by rw[hlen];omega) hn9 hdb hol h37 h0 h6' hO
   rw[hat] at g5
   obtain⟨fr',hp',wr',q1,q2,q3,q4⟩:=td L run k m ds hd hl9 n fr1 hp1 wr1 _ (by rw[hlen];omega) g2 g3 g6 g5 (by rw[hdr2,ho,← ym,← drop_eq_getElem_cons hj2])
   exact⟨fr',hp',wr',by rw[bT g1];exact q1,q2,by rw[q3,g4],q4⟩
def Uv:Code:=seq1 (seq1 (ai 3 rj))
theorem Io:ai 3 rj = .seq (.seq Uv (.block 0 (.loop uC))) (ai 4 rj):=rfl
set_option maxHeartbeats 1000000 in
theorem Ut (L:Lst)(run:aw)(k:Nat)(a:Nat)(l:Ω)(hl:Bok (a::l)) :
  ∃ fr,bh (CC L) run k 3 rj ⟨entry 37 [.sc (.string (tx (a::l)))],[],[]⟩=some ⟨fr,[],[]⟩∧fr.length=37∧nth fr 0 = .sc (.string (tx (a::l)))∧nth fr 4 = .sc (.bool (decide (a=45)))∧nth fr 5 = .sc (.slice none 0 0):=by
 obtain⟨e1,e2⟩:=cO 36 (.sc (.string (tx (a::l))))
 generalize entry 37 [.sc (.string (tx (a::l)))]=fr0 at *
 have hx:im TT 94 (.sc (.string (tx (a::l)))) (.sc (.int .i64 0))=some (.sc (.int .u8 (a:Int))):=fe uAI hl .i64 0 (by simp)
 have hb:((a:Int) == 45)=decide (a=45):=by
  by_cases h:a=45
  ·subst h;rfl
  ·rw[decide_eq_false h,beq_eq_false_iff_ne];omega
 have hp:(0:Int)<(l.length:Int)+1:=by omega
 simp[rj,f115,bh,e1,e2,dN,uAI,hx,hb,hp]
theorem afT(l:Ω)(hl:l.length<20000000)(h37:fr.length=37)(h0:nth fr 0 = .sc (.string (tx l))) :
  ∃ fr',ae (CC L) run k Uv ⟨fr,hp,wr⟩=some (.normal,⟨fr',hp,wr⟩)∧fr'.length=37∧nth fr' 0 = .sc (.string (tx l))∧nth fr' 4=nth fr 4∧nth fr' 5=nth fr 5∧nth fr' 6 = .sc (.int .i64 ((l.length:Int) - 1)):=by
 have hw:=cM l.length (by omega)
 simp[Uv,rj,seq1,f115,dN,h37,h0,uAI,hw]
theorem OD (run:aw)(k:Nat)(fr:Ψ)(hp hp':Θ)(wr:Ω)(p q:PV)(m:Bool)(fp:FP)(h37:fr.length=37)(h4:nth fr 4 = .sc (.bool m))(h5:nth fr 5=p)(hc:bP (CC LT1) run false hp 156 [p]=some (q,hp',fp)) :
  ∃ st,ae (CC LT1) run k (ai 4 rj) ⟨fr,hp,wr⟩=some (.ret,st)∧aX TT st.fr st.hp f115.results.toList=some [.sc (.bool m),q]:=by
 simp[rj,f115,aM,h37,h4,h5,hc,aX]
def uA:Ψ→Option Ψ
 | [.sc (.string s)]=>match yV (bys s) with
  | some (m,ds)=>bif ds.length.blt 9000000 then some [.sc (.bool m),bC (T.aJ (dec 0 ds))] else none
  | none=>none
 | _=>none
theorem Aw:Ab.Spec base.P 115 uA:=Ab.Spec.bS (C:=CC LT1) (cR JZ) fun args rs h=>by
 unfold uA at h
 split at h
 ·rename_i s
  split at h
  ·rename_i m ds e
   cases hb:ds.length.blt 9000000 with
   | false=>rw[hb] at h;cases h
   | true =>
    rw[hb] at h
    simp only[cond_true,OiE] at h
    subst h
    rw[Nat.blt_eq] at hb
    obtain⟨e1,e2,e3⟩:=sM e
    have hok:=nf s
    have hs:s=tx (bys s):=(iC s).symm
    obtain⟨a,l,hal⟩:∃ a l,bys s=a::l:=by
     cases h:bys s with
     | nil=>exact absurd h e3
     | cons a l=>exact⟨a,l,rfl⟩
    have hlen:(bys s).length<20000000:=by rw[e1];cases m <;> simp <;> omega
    have hm:decide (a=45)=m:=by
     rw[hal] at e1
     cases m with
     | true=>simp at e1;simp[e1.1]
     | false =>
      simp only[cond_false,nil_append] at e1
      subst e1
      have:=dI.1 (fT e2 (mem_cons_self ..))
      simp;omega
    rw[hs,hal]
    rw[hal] at hok hlen
    obtain⟨f1,p1,p2,p3,p4,p5⟩:=Ut LT1 (runK (CC LT1) ((a::l).length+1)) ((a::l).length+1) a l hok
    obtain⟨f2,q1,q2,q3,q4,q5,q6⟩:=afT LT1 (runK (CC LT1) ((a::l).length+1)) ((a::l).length+1) f1 [] [] (a::l) hlen p2 p3
    have e1':a::l=(bif m then [45] else [])++ds:=by rw[← hal];exact e1
    obtain⟨f3,hp3,wr3,r1,r2,r3,r4⟩:=td LT1 (runK (CC LT1) ((a::l).length+1)) ((a::l).length+1) m ds e2 (by omega) (a::l).length f2 [] [] [] (by rw[e1'];exact Nat.le_refl _) q2 (by rw[q3,e1']) q6 (by rw[q5,p5];exact dt.nil (Nat.le_refl _)) (by rw[drop_eq_nil_of_le];rfl;rw[e1'];cases m <;> simp <;> omega)
    obtain⟨hp4,fp,c1,-⟩:=tB lS xI (runK (CC LT1) ((a::l).length+1)) false jl r4.s [bC (T.fi (dvs ds))] (by
     have:=dR (Jt e2) (show (dvs ds).length<10000000 by rw[mY];omega)
     simp only[bC] at this
     simp only[iQ,this])
    rw[T.eB (Jt e2),vn] at c1
    obtain⟨st,x1,x2⟩:=OD (runK (CC LT1) ((a::l).length+1)) ((a::l).length+1) f3 hp3 hp4 wr3 _ _ m fp r2 (by rw[r3,q4,p4,hm]) rfl c1
    have hx:ae (CC LT1) (runK (CC LT1) ((a::l).length+1)) ((a::l).length+1) rj ⟨entry 37 [.sc (.string (tx (a::l)))],[],[]⟩=some (.ret,st):=by
     rw[aY 3 p1,Io,ar ((ar q1).trans (bE r1))]
     exact x1
    exact⟨(a::l).length+2,_,_,_,_,_,ba zq rfl hx x2,rfl,Wk.refl rfl,Wk.refl rfl,trivial⟩
  ·cases h
 ·cases h
def Ai:Code:=((f116.body).bind aA).getD .skip
def gX:Code:=f116.body.getD .skip
theorem qK:und TT 43=some (.slice 5):=by kernel_rfl
theorem sU8:de TT 5=some 1:=by kernel_rfl
theorem bU8:ja TT 5=some 1:=by kernel_rfl
theorem zU8:dU TT 5=some [u8v 0]:=by kernel_rfl
theorem Mg (n:Nat):fY TT 43 1 [(0,.sc (.int .u8 (n:Int)))]=some (1,[u8v n]):=agK qK sU8 zU8 n
theorem TP(h34:fr.length=34)(h6:nth fr 6 = .sc (.int .i64 (-1))) :
  ∃ fr',ae (CC L) run k Ai ⟨fr,hp,wr⟩=some (.exit 0,⟨fr',hp,wr⟩)∧fr'.length=34∧nth fr' 5=nth fr 5:=by
 simp[Ai,f116,h34,h6]
set_option maxHeartbeats 1000000 in
theorem HI(t out:Ω)(i:Nat)(ht:T.Dok t)(hi:i<t.length)(hi9:t.length<20000000)(ho9:out.length<20000001)(h34:fr.length=34)(h1:nth fr 1=bC t)(h6:nth fr 6=iv i)(hO:dt u8v 0 hp out (nth fr 5)) :
  ∃ fr' hp' wr',ae (CC L) run k Ai ⟨fr,hp,wr⟩=some (.normal,⟨fr',hp',wr'⟩)∧fr'.length=34∧nth fr' 1=bC t∧dt u8v 0 hp' (out++[at0 t i+48]) (nth fr' 5)∧nth fr' 6 = .sc (.int .i64 ((i:Int) - 1)):=by
 have hda:=fE t i hi
 have hd9:=T.cn ht i
 generalize at0 t i=d at *
 obtain⟨b,hb⟩:∃ b,b=d+48:=⟨_,rfl⟩
 rw[← hb]
 obtain⟨p',hp',fp,g1,g2,-⟩:=hO.app b (by omega)
 have hw:=cM i (by omega)
 have hw1:bA .i64 (48+(d:Int))=(b:Int):=by rw[show (48+(d:Int))=(b:Int) by omega];exact cq .i64 b (hiI (by omega))
 have hw2:bA .u8 (b:Int)=(b:Int):=cq .u8 b (show b≤255 by omega)
 have hlX:=Mg b
 have e1:bC t = .imm t.length false (t.map iv):=rfl
 rw[e1] at h1 ⊢
 simp only[iv] at h6
 simp[Ai,f116,bd,bn,partOf,and_assoc,bg,lX,h34,h1,h6,hi,hda,aU,uI,sI,aI,u8T,dD,hw,hw1,hw2,hlX,Lm,tq,qK,sU8,bU8,zU8,ch,g1,g2]
theorem Ah (L:Lst)(run:aw)(k:Nat)(t pre:Ω)(ht:T.Dok t)(h9:t.length<10000000)(hp9:pre.length≤1):∀ (n:Nat) (fr:Ψ) (hp:Θ) (wr:Ω) (out:Ω),n≤t.length →
  fr.length=34→nth fr 1=bC t→nth fr 6 = .sc (.int .i64 ((n:Int) - 1))→dt u8v 0 hp out (nth fr 5)→out=pre++(t.drop n).reverse.map (· + 48) →
  ∃ (fr':Ψ) (hp':Θ) (wr':Ω),cb (ae (CC L) run k Ai) (n+1) ⟨fr,hp,wr⟩=some (.exit 0,⟨fr',hp',wr'⟩)∧fr'.length=34∧dt u8v 0 hp' (pre++t.reverse.map (· + 48)) (nth fr' 5)
 | 0,fr,hp,wr,out,hn,h34,h1,h6,hO,ho=>by
  obtain⟨fr',q1,q2,q3⟩:=TP L run k fr hp wr h34 (by rw[h6];rfl)
  refine⟨fr',hp,wr,bu q1,q2,?_⟩
  rw[q3]
  rw[drop_zero] at ho
  rw[← ho];exact hO
 | n+1,fr,hp,wr,out,hn,h34,h1,h6,hO,ho=>by
  have h6':nth fr 6=iv n:=by rw[h6];simp[iv]
  obtain⟨fr1,hp1,wr1,g1,g2,g3,g4,g5⟩:=HI L run k fr hp wr t out n ht (by omega) (by omega) (by rw[ho];simp;omega) h34 h1 h6' hO
  obtain⟨fr',hp',wr',q1,q2,q3⟩:=Ah L run k t pre ht h9 hp9 n fr1 hp1 wr1 _ (by omega) g2 g3 g5 g4 (by
   rw[ho,drop_eq_getElem_cons (show n<t.length by omega),dc (show n<t.length by omega),reverse_cons,map_append]
   simp only[map_cons,map_nil,append_assoc])
  exact⟨fr',hp',wr',by rw[bT g1];exact q1,q2,q3⟩
def B0:Code:=seq1 (ai 4 gX)
def HJ:Code:=seq1 (seq1 (ai 5 gX))
theorem Eb:ai 4 gX = .seq B0 (ai 5 gX):=rfl
theorem Ea:ai 5 gX = .seq (.seq HJ (.block 0 (.loop Ai))) (ai 6 gX):=rfl
theorem F9 (run:aw)(dr:Bool)(hp:Θ)(l:Ω)(hd:T.Dok l)(hl:l.length<10000000):bP (CC LT1) run dr hp 156 [bC l]=some (bC (T.aJ (T.val l)),hp,⟨[],[],false,false⟩) :=
 bt lS xI run dr hp _ [bC (T.aJ (T.val l))] (pW hp l) (by simp only[aK,qo]) (by simp only[iQ,dR hd hl,T.eB hd])
theorem TM (run:aw)(k:Nat)(m:Bool)(l t:Ω)(hc:∀ hp,bP (CC LT1) run false hp 156 [bC l]=some (bC t,hp,⟨[],[],false,false⟩)) :
  ∃ fr,bh (CC LT1) run k 2 gX ⟨entry 34 [.sc (.bool m),bC l],[],[]⟩=some ⟨fr,[],[]⟩∧fr.length=34∧nth fr 0 = .sc (.bool m)∧nth fr 1=bC t:=by
 obtain⟨e1,e2,e3⟩:=cl 32 (.sc (.bool m)) (bC l)
 generalize entry 34 [.sc (.bool m),bC l]=fr0 at *
 simp[gX,f116,bh,e1,e2,e3,aM,hc]
theorem N6(h34:fr.length=34)(h1:nth fr 1=bC []) :
  ∃ st,ae (CC L) run k (ai 2 gX) ⟨fr,hp,wr⟩=some (.ret,st)∧aX TT st.fr st.hp f116.results.toList=some [.sc (.string (tx [48]))]:=by
 have:(tx [48])={ data:=#[48] } := rfl
 rw[this]
 simp[gX,f116,dP,h34,h1,aX]
theorem TN(m:Bool)(t:Ω)(ht:0<t.length)(h34:fr.length=34)(h0:nth fr 0 = .sc (.bool m))(h1:nth fr 1=bC t) :
  ∃ fr',bh (CC L) run k 2 (ai 2 gX) ⟨fr,hp,wr⟩=some ⟨fr',hp,wr⟩∧fr'.length=34∧nth fr' 0 = .sc (.bool m)∧nth fr' 1=bC t∧nth fr' 5 = .sc (.slice none 0 0):=by
 have h:((t.length:Int) == 0)=false:=by rw[beq_eq_false_iff_ne];omega
 have h2 : ¬ (t.length=0):=by omega
 have h3:t≠[]:=by intro e;subst e;simp at ht
 simp[gX,f116,bh,dP,h34,h0,h1,h]
theorem aa2(m:Bool)(t:Ω)(h34:fr.length=34)(h0:nth fr 0 = .sc (.bool m))(h1:nth fr 1=bC t)(h5:nth fr 5 = .sc (.slice none 0 0)) :
  ∃ fr' hp' wr',ae (CC L) run k B0 ⟨fr,[],[]⟩=some (.normal,⟨fr',hp',wr'⟩)∧fr'.length=34∧nth fr' 1=bC t∧dt u8v 0 hp' (bif m then [45] else []) (nth fr' 5):=by
 cases m with
 | false =>
  have hO:dt u8v 0 [] [] (.sc (.slice none 0 0)):=dt.nil (Nat.le_refl _)
  simp[B0,gX,seq1,f116,and_assoc,h34,h0,h1,h5,hO]
 | true =>
  obtain⟨p',hp',fp,g1,g2,-⟩:=(dt.nil (e:=u8v) (b:=0) (hp:=[]) (Nat.le_refl _)).app 45 (by simp)
  rw[nil_append] at g2
  have hlX:fY TT 43 1 [(0,.sc (.int .u8 45))]=some (1,[u8v 45]):=Mg 45
  simp[B0,gX,seq1,f116,and_assoc,bg,lX,h34,h0,h1,h5,hlX,Lm,tq,qK,sU8,bU8,zU8,ch,g1,g2]
theorem aa1(t:Ω)(ht:t.length<20000000)(h34:fr.length=34)(h1:nth fr 1=bC t) :
  ∃ fr',ae (CC L) run k HJ ⟨fr,hp,wr⟩=some (.normal,⟨fr',hp,wr⟩)∧fr'.length=34∧nth fr' 1=bC t∧nth fr' 5=nth fr 5∧nth fr' 6 = .sc (.int .i64 ((t.length:Int) - 1)):=by
 have hw:=cM t.length (by omega)
 simp[HJ,gX,seq1,f116,dP,h34,h1,hw]
theorem N7(l:Ω)(hl:Bok l)(h34:fr.length=34)(hO:dt u8v 0 hp l (nth fr 5)) :
  ∃ st,ae (CC L) run k (ai 6 gX) ⟨fr,hp,wr⟩=some (.ret,st)∧aX TT st.fr st.hp f116.results.toList=some [.sc (.string (tx l))]:=by
 obtain⟨ids,h1⟩:=hO.s.rd
 have h2:=Gg hl
 have hcv:dD TT hp 43 94 (nth fr 5)=some (.sc (.string (tx l)),ids):=by
  have h3:tx l=mkStr (l.map UInt8.ofNat):=rfl
  rw[h3]
  obtain⟨-,h⟩:=hO
  rcases h with ⟨rfl,h⟩| ⟨id,m,-,-,h,-⟩
  ·rw[h] at h1 ⊢
   simp only[dD,qK,uAI,u8T,h1,h2]
  ·rw[h] at h1 ⊢
   simp only[dD,qK,uAI,u8T,h1,h2]
 simp[gX,f116,h34,hcv,aX]
def nB:Ψ→Option Ψ
 | [.sc (.bool m),p]=>match nH p with
  | some l=>some [.sc (.string (tx (itx m (T.val l))))]
  | none=>none
 | _=>none
theorem Ly(s:ByteArray):bw (snap hp bq) [.sc (.string s)]=some ([.sc (.string s)],[]):=rfl
theorem sY:Ab.Spec base.P 116 nB:=Ab.Spec.bS (C:=CC LT1) (cR JZ) fun args rs h=>by
 unfold nB at h
 split at h
 ·split at h
  ·rename_i m p _ l e
   obtain⟨rfl,hd,hl⟩:=gh e
   simp only[OiE] at h
   subst h
   have hlt:=T.df (T.eW hd)
   obtain⟨f1,p1,p2,p3,p4⟩:=TM (runK (CC LT1) (l.length+1)) (l.length+1) m l _ (fun hp=>F9 (runK (CC LT1) (l.length+1)) false hp l hd hl)
   by_cases h0:T.val l=0
   ·rw[h0] at p4
    obtain⟨st,x1,x2⟩:=N6 LT1 (runK (CC LT1) (l.length+1)) (l.length+1) f1 [] [] p2 p4
    have hx:ae (CC LT1) (runK (CC LT1) (l.length+1)) (l.length+1) gX ⟨entry 34 [.sc (.bool m),bC l],[],[]⟩=some (.ret,st):=by
     rw[aY 2 p1];exact x1
    rw[h0]
    exact⟨l.length+2,_,_,_,_,_,ba uX rfl hx x2,Ly _ _,Wk.refl rfl,trivial⟩
   ·obtain⟨f2,q1,q2,q3,q4,q5⟩:=TN LT1 (runK (CC LT1) (l.length+1)) (l.length+1) f1 [] [] m _ (T.cT.2 h0) p2 p3 p4
    obtain⟨f3,hp3,wr3,r1,r2,r3,r4⟩:=aa2 LT1 (runK (CC LT1) (l.length+1)) (l.length+1) f2 m _ q2 q3 q4 q5
    obtain⟨f4,s1,s2,s3,s4,s5⟩:=aa1 LT1 (runK (CC LT1) (l.length+1)) (l.length+1) f3 hp3 wr3 _ (by omega) r2 r3
    obtain⟨f5,hp5,wr5,t1,t2,t3⟩:=Ah LT1 (runK (CC LT1) (l.length+1)) (l.length+1) (T.aJ (T.val l)) (bif m then [45] else []) (T.bU _) (by omega) (by cases m <;> simp) _ f4 hp3 wr3 _ (Nat.le_refl _) s2 s3 s5 (by rw[s4];exact r4) (by simp)
    have hitx:itx m (T.val l)=(bif m then [45] else [])++(T.aJ (T.val l)).reverse.map (· + 48):=by rw[itx,if_neg h0]
    rw[← hitx] at t3
    obtain⟨st,x1,x2⟩:=N7 LT1 (runK (CC LT1) (l.length+1)) (l.length+1) f5 hp5 wr5 _ (Wz _ _) t2 t3
    have hx:ae (CC LT1) (runK (CC LT1) (l.length+1)) (l.length+1) gX ⟨entry 34 [.sc (.bool m),bC l],[],[]⟩=some (.ret,st):=by
     rw[aY 2 p1,aY 2 q1,show ai 2 (ai 2 gX)=ai 4 gX from rfl,Eb,ar r1,Ea,ar ((ar s1).trans (bE (bK t1 (by omega))))]
     exact x1
    exact⟨l.length+2,_,_,_,_,_,ba uX rfl hx x2,Ly _ _,Wk.refl rfl,trivial⟩
  ·cases h
 ·cases h
def eY:Ω→Nat
 | []=>0
 | a::l=>bif a.beq 45 then l.length else (a::l).length
theorem ahr (a:Nat):((a:Int) == 45)=a.beq 45:=by
 cases h:a.beq 45 with
 | true=>rw[Nat.eq_of_beq_eq_true h];rfl
 | false =>
  rw[beq_eq_false_iff_ne]
  intro e
  have:a=45:=by omega
  subst this;cases h
theorem y5(l:Ω)(hl:Bok l)(h9:l.length<100000000) :
  ∃ st,ae (CC L) run k (f147.body.getD .skip) ⟨entry 16 [.sc (.string (tx l))],[],[]⟩=some (.ret,st)∧aX TT st.fr st.hp f147.results.toList=some [iv (eY l)]:=by
 obtain⟨e1,e2⟩:=cO 15 (.sc (.string (tx l)))
 generalize entry 16 [.sc (.string (tx l))]=fr0 at *
 cases l with
 | nil=>simp[f147,e1,e2,dN,uAI,undef,aX,eY,iv]
 | cons a l =>
  have hx:im TT 94 (.sc (.string (tx (a::l)))) (.sc (.int .i64 0))=some (.sc (.int .u8 (a:Int))):=fe uAI hl .i64 0 (by simp)
  have hp:(0:Int)<(l.length:Int)+1:=by omega
  have hw:=cq .i64 l.length (hiI (by simp at h9;omega))
  have hb:=ahr a
  cases h:a.beq 45 <;> rw[h] at hb <;> simp[f147,e1,e2,dN,uAI,hx,hb,hp,hw,aX,eY,h,iv]
def lW:Ψ→Option Ψ
 | [.sc (.string s)]=>bif (bys s).length.blt 100000000 then some [iv (eY (bys s))] else none
 | _=>none
theorem yZ:Ab.Spec base.P 147 lW:=Ab.Spec.bS (C:=CC []) (cR trivial) fun args rs h=>by
 unfold lW at h
 split at h
 ·rename_i s
  cases hb:(bys s).length.blt 100000000 with
  | false=>rw[hb] at h;cases h
  | true =>
   rw[hb] at h
   simp only[cond_true,OiE] at h
   subst h
   rw[Nat.blt_eq] at hb
   obtain⟨st,x1,x2⟩:=y5 [] (runK (CC []) 1) 1 (bys s) (nf s) hb
   rw[iC] at x1
   exact⟨2,_,_,_,_,_,ba zu rfl x1 x2,rfl,Wk.refl rfl,trivial⟩
 ·cases h
def LT2:Lst:=[(147,lW)]
theorem YZ:dE base.P LT2:=⟨yZ,trivial⟩
theorem abX:bx LT2 147=fun a=>lW (aK a):=rfl
theorem qp (run:aw)(dr:Bool)(hp:Θ)(l:Ω)(hl:Bok l)(h9:l.length<100000000):bP (CC LT2) run dr hp 147 [.sc (.string (tx l))]=some (.sc (.int .i64 (eY l:Int)),hp,⟨[],[],false,false⟩) :=
 bt Dx abX run dr hp _ [iv (eY l)] rfl rfl (by
  have h:l.length.blt 100000000=true:=by rw[Nat.blt_eq];exact h9
  simp only[lW,jW hl,h,cond_true])
theorem Ew(l:Ω)(hl:Bok l)(h9:l.length<100000000) :
  ∃ st,ae (CC LT2) run k (f100.body.getD .skip) ⟨entry 6 [.sc (.string (tx l))],[],[]⟩=some (.ret,st)∧aX TT st.fr st.hp f100.results.toList=some [.sc (.bool (decide (1000<eY l)))]:=by
 obtain⟨e1,e2⟩:=cO 5 (.sc (.string (tx l)))
 generalize entry 6 [.sc (.string (tx l))]=fr0 at *
 have hc:=fun dr hp=>qp run dr hp l hl h9
 generalize eY l=d at *
 have h1:((1000:Int)<(d:Int))=(1000<d):=by apply propext;omega
 simp[f100,e1,e2,aM,hc,aX,h1]
def pc:Ψ→Option Ψ
 | [.sc (.string s)]=>bif (bys s).length.blt 100000000 then some [.sc (.bool (decide (1000<eY (bys s))))] else none
 | _=>none
theorem uE:Ab.Spec base.P 100 pc:=Ab.Spec.bS (C:=CC LT2) (cR YZ) fun args rs h=>by
 unfold pc at h
 split at h
 ·rename_i s
  cases hb:(bys s).length.blt 100000000 with
  | false=>rw[hb] at h;cases h
  | true =>
   rw[hb] at h
   simp only[cond_true,OiE] at h
   subst h
   rw[Nat.blt_eq] at hb
   obtain⟨st,x1,x2⟩:=Ew (runK (CC LT2) 1) 1 (bys s) (nf s) hb
   rw[iC] at x1
   exact⟨2,_,_,_,_,_,ba Gz rfl x1 x2,rfl,Wk.refl rfl,trivial⟩
 ·cases h
def uq:Code:=((f113.body).bind aA).getD .skip
def nC:Code:=f113.body.getD .skip
theorem T9(l:Ω)(h38:fr.length=38)(h0:nth fr 0 = .sc (.string (tx l)))(h5:nth fr 5=iv l.length) :
  ∃ fr',ae (CC L) run k uq ⟨fr,[],[]⟩=some (.exit 0,⟨fr',[],[]⟩)∧fr'.length=38∧nth fr' 0 = .sc (.string (tx l))∧nth fr' 4=nth fr 4:=by
 simp only[iv] at h5
 simp[uq,f113,dN,h38,h0,h5,uAI]
set_option maxHeartbeats 1000000 in
theorem Oi(l:Ω)(i:Nat)(hl:Bok l)(hi:i<l.length)(hi9:i<20000000)(h45:at0 l i=45)(h38:fr.length=38)(h0:nth fr 0 = .sc (.string (tx l)))(h5:nth fr 5=iv i) :
  ∃ fr',ae (CC L) run k uq ⟨fr,[],[]⟩=some (.normal,⟨fr',[],[]⟩)∧fr'.length=38∧nth fr' 0 = .sc (.string (tx l))∧nth fr' 4=nth fr 4∧nth fr' 5=iv (i+1):=by
 have hx:=fe uAI hl .i64 i hi
 have hw:=bD i (by omega)
 rw[h45] at hx
 simp only[iv] at h5 ⊢
 simp[uq,f113,dN,h38,h0,h5,uAI,hi,hx,hw]
set_option maxHeartbeats 1000000 in
theorem aba(l:Ω)(i n:Nat)(hl:Bok l)(hi:i<l.length)(hi9:i<20000000)(hd:l9 (at0 l i)=true)(hn:n<1000000000)(h38:fr.length=38)(h0:nth fr 0 = .sc (.string (tx l)))(h4:nth fr 4=iv n)(h5:nth fr 5=iv i) :
  ∃ fr',ae (CC L) run k uq ⟨fr,[],[]⟩=some (.normal,⟨fr',[],[]⟩)∧fr'.length=38∧nth fr' 0 = .sc (.string (tx l))∧nth fr' 4=iv (stp n (at0 l i))∧nth fr' 5=iv (i+1):=by
 have hx:=fe uAI hl .i64 i hi
 rw[dI] at hd
 have hw:=bD i (by omega)
 generalize at0 l i=b at *
 obtain⟨s1,hs1⟩:∃ s1,s1=10*n:=⟨_,rfl⟩
 obtain⟨s2,hs2⟩:∃ s2,s2=s1+b:=⟨_,rfl⟩
 obtain⟨s3,hs3⟩:∃ s3,s3=stp n b:=⟨_,rfl⟩
 have hs4:s2=s3+48:=by rw[hs3,hs2,hs1];unfold stp dv;omega
 rw[← hs3]
 have hw1:=KR .i64 n s1 hs1 (hiI (by omega))
 have hw2:=cq .i64 b (hiI (by omega))
 have hw3:=dm .i64 s1 b s2 hs2 (hiI (by omega))
 have hw4:=Bv .i64 s2 s3 hs4 (hiI (by omega))
 have hne:((b:Int) == 45)=false:=by rw[beq_eq_false_iff_ne];omega
 have hne2 : ¬ ((b:Int)=45):=by omega
 simp only[iv] at h4 h5 ⊢
 simp[uq,f113,dN,h38,h0,h4,h5,uAI,uI,u8T,dD,hi,hx,hne,bne,hw,hw1,hw2,hw3,hw4]
theorem sZ (L:Lst)(run:aw)(k:Nat)(m:Bool)(ds:Ω)(hd:eI ds=true)(h9:ds.length≤9):∀ (n i:Nat) (fr:Ψ) (x:Nat),i+n=((bif m then [45] else [])++ds).length →
  fr.length=38→nth fr 0 = .sc (.string (tx ((bif m then [45] else [])++ds)))→nth fr 4=iv x→nth fr 5=iv i→x=dec 0 (ds.take (i - (bif m then 1 else 0))) →
  ∃ (fr':Ψ),cb (ae (CC L) run k uq) (n+1) ⟨fr,[],[]⟩=some (.exit 0,⟨fr',[],[]⟩)∧fr'.length=38∧nth fr' 0 = .sc (.string (tx ((bif m then [45] else [])++ds)))∧nth fr' 4=iv (dec 0 ds)
 | 0,i,fr,x,hin,h38,h0,h4,h5,hx=>by
  have e:i=((bif m then [45] else [])++ds).length:=by omega
  rw[e] at h5
  obtain⟨fr',q1,q2,q3,q4⟩:=T9 L run k fr _ h38 h0 h5
  refine⟨fr',bu q1,q2,q3,?_⟩
  rw[q4,h4,hx,take_of_length_le (by rw[e];cases m <;> simp)]
 | n+1,i,fr,x,hin,h38,h0,h4,h5,hx=>by
  have hB:Bok ((bif m then [45] else [])++ds):=by
   refine Bok.append ?_ ?_
   ·cases m
    ·exact Bok.nil
    ·exact Bok.nil.cons (by omega)
   ·intro x hx
    have:=dI.1 (fT hd hx)
    omega
  have hlen:((bif m then [45] else [])++ds).length=(bif m then 1 else 0)+ds.length:=by cases m <;> simp;omega
  rw[hlen] at hin
  have hil:i<(bif m then 1 else 0)+ds.length:=by omega
  have hi9:i<20000000:=by cases m <;> simp at hil <;> omega
  by_cases hs:m=true∧i=0
  ·obtain⟨rfl,rfl⟩:=hs
   obtain⟨fr1,g1,g2,g3,g4,g5⟩:=Oi L run k fr _ 0 hB (by rw[hlen];exact hil) hi9 rfl h38 h0 h5
   obtain⟨fr',q1,q2⟩:=sZ L run k true ds hd h9 n 1 fr1 x (by rw[hlen];omega) g2 g3 (by rw[g4,h4]) g5 (by simpa using hx)
   exact⟨fr',by rw[bT g1];exact q1,q2⟩
  ·obtain⟨j,hj,hj2⟩:∃ j,i=(bif m then 1 else 0)+j∧j<ds.length:=by
    cases m with
    | false=>exact⟨i,by simp,by simp at hil;exact hil⟩
    | true =>
     have:i≠0:=fun h=>hs ⟨rfl,h⟩
     exact⟨i - 1,by simp;omega,by simp at hil;omega⟩
   have hat:at0 ((bif m then [45] else [])++ds) i=ds[j]:=by
    unfold at0
    cases m with
    | false=>simp only[cond_false,nil_append,Nat.zero_add] at hj ⊢;subst hj;simp[hj2]
    | true=>simp only[cond_true] at hj ⊢;subst hj;rw[Nat.add_comm];simp[hj2]
   have hdb:l9 (at0 ((bif m then [45] else [])++ds) i)=true:=by rw[hat];exact fT hd (getElem_mem hj2)
   have hdr:i - (bif m then 1 else 0)=j:=by rw[hj];cases m <;> simp
   have hdr2:i+1 - (bif m then 1 else 0)=j+1:=by rw[hj];cases m <;> simp <;> omega
   rw[hdr] at hx
   have hx9:x<1000000000:=by
    have h1:eI (ds.take j)=true:=by
     have:=fZ (ds.take j) (ds.drop j)
     rw[take_append_drop,hd] at this
     have h2:=this.symm
     rw[Bool.and_eq_true] at h2
     exact h2.1
    have h2:=dec_lt _ h1
    rw[hx]
    refine Nat.lt_of_lt_of_le h2 (Nat.le_trans (Nat.pow_le_pow_right (by omega) (show (ds.take j).length≤9 by rw[length_take];omega)) (by decide))
   obtain⟨fr1,g1,g2,g3,g4,g5⟩:=aba L run k fr _ i x hB (by rw[hlen];exact hil) hi9 hdb hx9 h38 h0 h4 h5
   rw[hat] at g4
   obtain⟨fr',q1,q2⟩:=sZ L run k m ds hd h9 n (i+1) fr1 _ (by rw[hlen];omega) g2 g3 g4 g5 (by
    rw[hdr2,take_succ_eq_append_getElem hj2,m9,← hx];rfl)
   exact⟨fr',by rw[bT g1];exact q1,q2⟩
theorem Jy {s:Ω}{m:Bool}{ds:Ω}(h:yV s=some (m,ds)):eY s=ds.length:=by
 obtain⟨h1,h2,h3⟩:=sM h
 cases m with
 | true=>subst h1;rfl
 | false =>
  simp only[cond_false,nil_append] at h1
  subst h1
  cases s with
  | nil=>rfl
  | cons a l =>
   have:=dI.1 (fT h2 (mem_cons_self ..))
   have hb:a.beq 45=false:=by
    cases e:a.beq 45 with
    | false=>rfl
    | true=>have:=Nat.eq_of_beq_eq_true e;omega
   simp[eY,hb]
def HS:Code:=seq1 (seq1 (ai 3 nC))
theorem En:ai 3 nC = .seq (.seq HS (.block 0 (.loop uq))) (ai 4 nC):=rfl
theorem Ok(l:Ω)(hl:Bok l)(h9:l.length<100000000)(hd:9<eY l) :
  ∃ st,ae (CC LT2) run k nC ⟨entry 38 [.sc (.string (tx l))],[],[]⟩=some (.ret,st)∧aX TT st.fr st.hp f113.results.toList=some [Ab.bN 0,.sc (.bool false)]:=by
 obtain⟨e1,e2⟩:=cO 37 (.sc (.string (tx l)))
 generalize entry 38 [.sc (.string (tx l))]=fr0 at *
 have hc:=fun dr hp=>qp run dr hp l hl h9
 generalize eY l=d at *
 have h1:((9:Int)<(d:Int)):=by omega
 simp[nC,f113,e1,e2,aM,hc,aX,h1,Ab.bN]
theorem Oj (run:aw)(k:Nat)(l:Ω)(hl:Bok l)(h9:l.length<100000000)(hd:eY l≤9) :
  ∃ fr,bh (CC LT2) run k 3 nC ⟨entry 38 [.sc (.string (tx l))],[],[]⟩=some ⟨fr,[],[]⟩∧fr.length=38∧nth fr 0 = .sc (.string (tx l))∧nth fr 4=iv 0:=by
 obtain⟨e1,e2⟩:=cO 37 (.sc (.string (tx l)))
 generalize entry 38 [.sc (.string (tx l))]=fr0 at *
 have hc:=fun dr hp=>qp run dr hp l hl h9
 generalize eY l=d at *
 have h1 : ¬ ((9:Int)<(d:Int)):=by omega
 simp[nC,f113,bh,e1,e2,aM,hc,h1,iv]
theorem aa9(h38:fr.length=38) :
  ∃ fr',ae (CC L) run k HS ⟨fr,[],[]⟩=some (.normal,⟨fr',[],[]⟩)∧fr'.length=38∧nth fr' 0=nth fr 0∧nth fr' 4=nth fr 4∧nth fr' 5=iv 0:=by
 simp[HS,nC,seq1,f113,h38,iv]
theorem Ol(a:Nat)(l:Ω)(x:Nat)(hl:Bok (a::l))(hx9:x<1000000000)(h38:fr.length=38)(h0:nth fr 0 = .sc (.string (tx (a::l))))(h4:nth fr 4=iv x) :
  ∃ st,ae (CC L) run k (ai 4 nC) ⟨fr,[],[]⟩=some (.ret,st)∧aX TT st.fr st.hp f113.results.toList=some [Ab.bN (gM (a.beq 45) x),.sc (.bool true)]:=by
 have hx:im TT 94 (.sc (.string (tx (a::l)))) (.sc (.int .i64 0))=some (.sc (.int .u8 (a:Int))):=fe uAI hl .i64 0 (by simp)
 have hp:(0:Int)<(l.length:Int)+1:=by omega
 have hb:=ahr a
 have hw:bA .i64 (-(x:Int)) = -(x:Int):=fm _ (by omega) (by omega)
 simp only[iv] at h4
 cases h:a.beq 45 with
 | true =>
  rw[h] at hb
  have e:gM true x = -(x:Int):=by cases x <;> rfl
  rw[e]
  simp[nC,f113,unP,dN,h38,h0,h4,uAI,hx,hp,hb,hw,aX,Ab.bN]
 | false =>
  rw[h] at hb
  have e:gM false x=(x:Int):=rfl
  rw[e]
  simp[nC,f113,dN,h38,h0,h4,uAI,hx,hp,hb,aX,Ab.bN]
def uo:Ψ→Option Ψ
 | [.sc (.string s)]=>match yV (bys s) with
  | some (m,ds)=>bif (bys s).length.blt 100000000 then (bif ds.length.ble 9 then some [Ab.bN (gM m (dec 0 ds)),.sc (.bool true)] else some [Ab.bN 0,.sc (.bool false)]) else none
  | none=>none
 | _=>none
theorem Al:Ab.Spec base.P 113 uo:=Ab.Spec.bS (C:=CC LT2) (cR YZ) fun args rs h=>by
 unfold uo at h
 split at h
 ·rename_i s
  split at h
  ·rename_i m ds e
   cases hb:(bys s).length.blt 100000000 with
   | false=>rw[hb] at h;cases h
   | true =>
    rw[hb] at h
    simp only[cond_true] at h
    rw[Nat.blt_eq] at hb
    have hs:s=tx (bys s):=(iC s).symm
    have hok:=nf s
    have hdn:=Jy e
    obtain⟨e1,e2,e3⟩:=sM e
    cases hc:ds.length.ble 9 with
    | false =>
     rw[hc] at h
     simp only[cond_false,OiE] at h
     subst h
     have hd:9<eY (bys s):=by
      rw[hdn]
      rcases Nat.lt_or_ge 9 ds.length with h | h
      ·exact h
      ·rw[show ds.length.ble 9=true by rw[Nat.ble_eq];exact h] at hc;cases hc
     obtain⟨st,x1,x2⟩:=Ok (runK (CC LT2) 1) 1 (bys s) hok hb hd
     rw[← hs] at x1
     exact⟨2,_,_,_,_,_,ba sz rfl x1 x2,rfl,Wk.refl rfl,Wk.refl rfl,trivial⟩
    | true =>
     rw[hc] at h
     simp only[cond_true,OiE] at h
     subst h
     rw[Nat.ble_eq] at hc
     obtain⟨f1,p1,p2,p3,p4⟩:=Oj (runK (CC LT2) ((bys s).length+1)) ((bys s).length+1) (bys s) hok hb (by rw[hdn];exact hc)
     obtain⟨f2,q1,q2,q3,q4,q5⟩:=aa9 LT2 (runK (CC LT2) ((bys s).length+1)) ((bys s).length+1) f1 p2
     obtain⟨f3,r1,r2,r3,r4⟩:=sZ LT2 (runK (CC LT2) ((bys s).length+1)) ((bys s).length+1) m ds e2 hc (bys s).length 0 f2 0 (by rw[← e1];omega) q2 (by rw[q3,p3,← e1]) (by rw[q4,p4]) q5 (by cases m <;> rfl)
     rw[← e1] at r3
     obtain⟨a,l,hal⟩:∃ a l,bys s=a::l:=by
      cases h:bys s with
      | nil=>exact absurd h e3
      | cons a l=>exact⟨a,l,rfl⟩
     have hm:a.beq 45=m:=by
      rw[hal] at e1
      cases m with
      | true=>simp at e1;rw[e1.1];rfl
      | false =>
       simp only[cond_false,nil_append] at e1
       subst e1
       have:=dI.1 (fT e2 (mem_cons_self ..))
       cases h:a.beq 45 with
       | false=>rfl
       | true=>have:=Nat.eq_of_beq_eq_true h;omega
     have hx9:dec 0 ds<1000000000:=Nat.lt_of_lt_of_le (dec_lt _ e2) (Nat.le_trans (Nat.pow_le_pow_right (by omega) hc) (by decide))
     rw[hal] at hok r3
     obtain⟨st,x1,x2⟩:=Ol LT2 (runK (CC LT2) ((bys s).length+1)) ((bys s).length+1) f3 a l _ hok hx9 r2 r3 r4
     rw[hm] at x2
     have hx:ae (CC LT2) (runK (CC LT2) ((bys s).length+1)) ((bys s).length+1) nC ⟨entry 38 [.sc (.string s)],[],[]⟩=some (.ret,st):=by
      rw[iC] at p1
      rw[aY 3 p1,En,ar ((ar q1).trans (bE r1))]
      exact x1
     exact⟨(bys s).length+2,_,_,_,_,_,ba sz rfl hx x2,rfl,Wk.refl rfl,Wk.refl rfl,trivial⟩
  ·cases h
 ·cases h
end Go.Proofs.YtjdmodeenbdfpaaGreat
end
