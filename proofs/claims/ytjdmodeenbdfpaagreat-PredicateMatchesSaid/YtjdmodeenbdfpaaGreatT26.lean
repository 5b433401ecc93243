/- Contracts of numbers kept as digits in text, part 26 of the proof; each lemma states its own conditions. -/
import Derived.Test.YtjdmodeenbdfpaaGreatT25
set_option linter.unusedSimpArgs false
set_option linter.unusedVariables false
namespace Go.Proofs.YtjdmodeenbdfpaaGreat
open Go Go.Ab List Tryz
theorem og (n:Nat):eL TT 24 1 [(0,iv n)]=some (1,[iv n]):=afQ uL sI zI n
noncomputable def lx:Code:=((f117.body).bind aC).getD .skip
noncomputable def mD:Code:=f117.body.getD .skip
theorem zZ (L:Lst)(run:ar)(k:Nat)(fr:List PV)(hp:List Blk)(wr:List Nat)(a b:List Nat)(i:Nat)(h54:fr.length=54)(h0:nth fr 0=bC a)(h1:nth fr 1=bC b)(h6:nth fr 6=iv 0)(h7:nth fr 7=iv i)
  (ha:a.length≤i) (hb:b.length≤i) :
  ∃ fr',af (CC L) run k lx ⟨fr,hp,wr⟩=some (.exit 0,⟨fr',hp,wr⟩)∧fr'.length=54∧nth fr' 5=nth fr 5:=by
 have e1 : ¬ (i<a.length):=by omega
 have e2 : ¬ (i<b.length):=by omega
 simp only[iv] at h6 h7
 simp[lx,f117,aC,af,aH,ao,aq,aG,ag,ai,an,aj,aF,aA,FzZ,bc,aw,bj,az,bO,aa,ae,ab,bd,dY,h54,h0,h1,h6,h7,uL,e1,e2]
set_option maxHeartbeats 4000000 in
theorem ub (L:Lst)(run:ar)(k:Nat)(fr:List PV)(hp:List Blk)(wr:List Nat)(a b out:List Nat)(i c s:Nat)(ha:T.Dok a)(hb:T.Dok b)(hc:c≤1)(hgo:i<a.length∨i<b.length∨0<c)(hi9:i<20000000)
  (h54:fr.length=54) (h0:nth fr 0=bC a) (h1:nth fr 1=bC b) (h6:nth fr 6=iv c) (h7:nth fr 7=iv i) (hO:dF iv 0 hp out (nth fr 5)) (ho:out.length=i) (hs:s=c+at0 a i+at0 b i) :
  ∃ fr' hp' wr',af (CC L) run k lx ⟨fr,hp,wr⟩=some (.normal,⟨fr',hp',wr'⟩)∧fr'.length=54∧nth fr' 0=bC a∧nth fr' 1=bC b∧nth fr' 6=iv (s / 10)∧nth fr' 7=iv (i+1)∧dF iv 0 hp' (out++[s % 10]) (nth fr' 5):=by
 have ha9:=T.cF ha i
 have hb9:=T.cF hb i
 obtain⟨s1,hs1⟩:∃ s1,s1=c+at0 a i:=⟨_,rfl⟩
 rw[← hs1] at hs
 obtain⟨q,hq⟩:∃ q,q=s / 10:=⟨_,rfl⟩
 obtain⟨r,hr⟩:∃ r,r=s % 10:=⟨_,rfl⟩
 obtain⟨p',hp',fp,g1,g2,-⟩:=hO.app r (by omega)
 have hw1:=dD .i64 c (at0 a i) s1 hs1 (hiI (by omega))
 have hw2:=dD .i64 s1 (at0 b i) s hs (hiI (by omega))
 have hw3:bE .i64 ((s:Int) / 10)=(q:Int):=T.jQ .i64 s q hq (hiI (by omega))
 have hw4:=T.lO s r hr
 have hwi:=bH i (by omega)
 rw[← hq,← hr]
 have e1:bC a = .imm a.length false (a.map iv):=rfl
 have e2:bC b = .imm b.length false (b.map iv):=rfl
 rw[e1] at h0 ⊢;rw[e2] at h1 ⊢
 simp only[iv] at h6 h7 ⊢
 by_cases hia:i<a.length
 ·have hda:=fM a i hia
  by_cases hib:i<b.length
  ·have hdb:=fM b i hib
   generalize at0 a i=x at *
   generalize at0 b i=y at *
   simp[lx,f117,aC,af,aH,ao,aq,aG,ag,ai,an,aj,aF,aA,FzZ,bc,aw,bj,az,bO,bg,bm,partOf,aa,ae,ab,bd,and_assoc,cX,bh,dZ,h54,h0,h1,h6,h7,uL,sI,aI,bI,zI,aV,hia,hib,hda,hdb,hw1,hw2,hw3,hw4,hwi,qN r,og,lR,iY,cg,g1,g2]
  ·rw[jq (Nat.le_of_not_lt hib)] at hs
   have:s1=s:=by omega
   subst this
   generalize at0 a i=x at *
   simp[lx,f117,aC,af,aH,ao,aq,aG,ag,ai,an,aj,aF,aA,FzZ,bc,aw,bj,az,bO,bg,bm,partOf,aa,ae,ab,bd,and_assoc,cX,bh,dZ,h54,h0,h1,h6,h7,uL,sI,aI,bI,zI,aV,hia,hib,hda,hw1,hw3,hw4,hwi,qN r,og,lR,iY,cg,g1,g2]
 ·rw[jq (Nat.le_of_not_lt hia)] at hs1
  have:s1=c:=by omega
  subst this
  by_cases hib:i<b.length
  ·have hdb:=fM b i hib
   generalize at0 b i=y at *
   simp[lx,f117,aC,af,aH,ao,aq,aG,ag,ai,an,aj,aF,aA,FzZ,bc,aw,bj,az,bO,bg,bm,partOf,aa,ae,ab,bd,and_assoc,cX,bh,dZ,h54,h0,h1,h6,h7,uL,sI,aI,bI,zI,aV,hia,hib,hdb,hw2,hw3,hw4,hwi,qN r,og,lR,iY,cg,g1,g2]
  ·rw[jq (Nat.le_of_not_lt hib)] at hs
   have:s1=s:=by omega
   subst this
   have hc0:0<s1:=by omega
   simp[lx,f117,aC,af,aH,ao,aq,aG,ag,ai,an,aj,aF,aA,FzZ,bc,aw,bj,az,bO,aa,ae,ab,bd,and_assoc,cX,bh,dZ,h54,h0,h1,h6,h7,uL,sI,bI,zI,hia,hib,hc0,hw3,hw4,hwi,qN r,og,lR,iY,cg,g1,g2]
theorem xb {va vb vo x c y P s q r:Nat}(h:vo+c*P=va+vb)(hs:s=c+x+y)(hq:q=s / 10)(hr:r=s % 10) :
  vo+P*r+q*(P*10)=va+x*P+(vb+y*P):=by
 have e:s=r+10*q:=by omega
 have e2:s*P=(r+10*q)*P:=by rw[e]
 subst hs
 simp only[Nat.add_mul] at e2 ⊢
 have e3:10*q*P=q*(P*10):=by grind
 have e4:r*P=P*r:=Nat.mul_comm _ _
 omega
theorem xa (L:Lst)(run:ar)(k:Nat)(a b:List Nat)(ha:T.Dok a)(hb:T.Dok b)(i n:Nat)(fr:List PV)(hp:List Blk)(wr:List Nat)(out:List Nat)(c:Nat)(hia:a.length≤i)(hib:b.length≤i)(hi:i<20000000)
  (h54:fr.length=54) (h0:nth fr 0=bC a) (h1:nth fr 1=bC b) (h6:nth fr 6=iv c) (h7:nth fr 7=iv i) (hO:dF iv 0 hp out (nth fr 5)) (ho:out.length=i) (hd:T.Dok out) (hc:c≤1) (hv:T.val out+c*10 ^ i=T.val (a.take i)+T.val (b.take i)) :
  ∃ (fr':List PV) (hp':List Blk) (wr':List Nat) (out':List Nat),cu (af (CC L) run k lx) (n+2) ⟨fr,hp,wr⟩=some (.exit 0,⟨fr',hp',wr'⟩)∧fr'.length=54∧dF iv 0 hp' out' (nth fr' 5)∧T.Dok out'∧T.val out'=T.val a+T.val b∧out'.length=i+c:=by
 by_cases hc0:c=0
 ·subst hc0
  obtain⟨fr',q1,q2,q3⟩:=zZ L run k fr hp wr a b i h54 h0 h1 h6 h7 hia hib
  refine⟨fr',hp,wr,out,bD q1,q2,by rw[q3];exact hO,hd,?_,ho⟩
  rw[T.cL a _ hia,T.cL b _ hib] at hv
  omega
 ·obtain⟨fr1,hp1,wr1,g1,g2,g3,g4,g5,g6,g7⟩:=ub L run k fr hp wr a b out i c _ ha hb hc (.inr (.inr (by omega))) hi h54 h0 h1 h6 h7 hO ho rfl
  have hv':T.val (out++[(c+at0 a i+at0 b i) % 10])+(c+at0 a i+at0 b i) / 10*10 ^ (i+1)=T.val (a.take (i+1))+T.val (b.take (i+1)):=by
   rw[T.cI,T.cI,T.dP,ho,Nat.pow_succ]
   exact xb hv rfl rfl rfl
  have e1:at0 a i=0:=jq hia
  have e2:at0 b i=0:=jq hib
  have e3:(c+at0 a i+at0 b i) / 10=0:=by omega
  rw[e3] at g5 hv'
  obtain⟨fr',q1,q2,q3⟩:=zZ L run k fr1 hp1 wr1 a b (i+1) g2 g3 g4 g5 g6 (by omega) (by omega)
  refine⟨fr',hp1,wr1,_,by rw[ct g1];exact bD q1,q2,by rw[q3];exact g7,hd.append (T.Dok.nil.cons (Nat.mod_lt _ (by omega))),?_,by simp;omega⟩
  rw[T.cL a _ (by omega),T.cL b _ (by omega)] at hv'
  omega
theorem mi (a b:List Nat):Nat.max a.length b.length≤a.length+b.length∧a.length≤Nat.max a.length b.length∧b.length≤Nat.max a.length b.length∧(Nat.max a.length b.length=a.length∨Nat.max a.length b.length=b.length):=by
 rcases Nat.le_total a.length b.length with h | h
 ·have:Nat.max a.length b.length=b.length:=Nat.max_eq_right h
  omega
 ·have:Nat.max a.length b.length=a.length:=Nat.max_eq_left h
  omega
theorem JU {a b out:List Nat}{i c:Nat}(hia:a.length≤i)(hib:b.length≤i)(hi:i≤Nat.max a.length b.length)(hd:T.Dok out)(ho:out.length=i)(hc:c≤1)(hv:T.val out+c*10 ^ i=T.val (a.take i)+T.val (b.take i)) :
  i+c=Nat.max a.length b.length+(if 10 ^ Nat.max a.length b.length≤T.val a+T.val b then 1 else 0):=by
 have hm:=mi a b
 have e:Nat.max a.length b.length=i:=by omega
 rw[e]
 rw[T.cL a _ hia,T.cL b _ hib] at hv
 have h1:=T.fh hd
 rw[ho] at h1
 have:c=0∨c=1:=by omega
 rcases this with h | h
 ·subst h
  rw[if_neg (by omega)]
 ·subst h
  rw[if_pos (by omega)]
theorem xc (L:Lst)(run:ar)(k:Nat)(a b:List Nat)(ha:T.Dok a)(hb:T.Dok b)(hla:a.length<10000000)(hlb:b.length<10000000):∀ (n i:Nat) (fr:List PV) (hp:List Blk) (wr:List Nat) (out:List Nat) (c:Nat),a.length≤i+n→b.length≤i+n→i≤Nat.max a.length b.length →
  fr.length=54→nth fr 0=bC a→nth fr 1=bC b→nth fr 6=iv c→nth fr 7=iv i→dF iv 0 hp out (nth fr 5)→out.length=i→T.Dok out→c≤1→T.val out+c*10 ^ i=T.val (a.take i)+T.val (b.take i) →
  ∃ (fr':List PV) (hp':List Blk) (wr':List Nat) (out':List Nat),cu (af (CC L) run k lx) (n+2) ⟨fr,hp,wr⟩=some (.exit 0,⟨fr',hp',wr'⟩)∧fr'.length=54∧dF iv 0 hp' out' (nth fr' 5)∧T.Dok out'∧T.val out'=T.val a+T.val b∧out'.length=Nat.max a.length b.length+(if 10 ^ Nat.max a.length b.length≤T.val a+T.val b then 1 else 0)
 | 0,i,fr,hp,wr,out,c,hia,hib,hi,h54,h0,h1,h6,h7,hO,ho,hd,hc,hv=>by
  obtain⟨fr',hp',wr',out',q1,q2,q3,q4,q5,q6⟩:=xa L run k a b ha hb i 0 fr hp wr out c hia hib (by have:=mi a b;omega) h54 h0 h1 h6 h7 hO ho hd hc hv
  exact⟨fr',hp',wr',out',q1,q2,q3,q4,q5,q6.trans (JU hia hib hi hd ho hc hv)⟩
 | n+1,i,fr,hp,wr,out,c,hia,hib,hi,h54,h0,h1,h6,h7,hO,ho,hd,hc,hv=>by
  by_cases hgo:i<a.length∨i<b.length
  ·have hx:=T.cF ha i
   have hy:=T.cF hb i
   obtain⟨fr1,hp1,wr1,g1,g2,g3,g4,g5,g6,g7⟩:=ub L run k fr hp wr a b out i c _ ha hb hc (by omega) (by have:=mi a b;omega) h54 h0 h1 h6 h7 hO ho rfl
   have hv':T.val (out++[(c+at0 a i+at0 b i) % 10])+(c+at0 a i+at0 b i) / 10*10 ^ (i+1)=T.val (a.take (i+1))+T.val (b.take (i+1)):=by
    rw[T.cI,T.cI,T.dP,ho,Nat.pow_succ]
    exact xb hv rfl rfl rfl
   obtain⟨fr',hp',wr',out',q1,q2⟩:=xc L run k a b ha hb hla hlb n (i+1) fr1 hp1 wr1 _ _ (by omega) (by omega) (by have:=mi a b;omega) g2 g3 g4 g5 g6 g7 (by simp[ho]) (hd.append (T.Dok.nil.cons (Nat.mod_lt _ (by omega)))) (by omega) hv'
   exact⟨fr',hp',wr',out',by rw[ct g1];exact q1,q2⟩
  ·obtain⟨fr',hp',wr',out',q1,q2,q3,q4,q5,q6⟩:=xa L run k a b ha hb i (n+1) fr hp wr out c (by omega) (by omega) (by have:=mi a b;omega) h54 h0 h1 h6 h7 hO ho hd hc hv
   exact⟨fr',hp',wr',out',q1,q2,q3,q4,q5,q6.trans (JU (by omega) (by omega) hi hd ho hc hv)⟩
noncomputable def Hr:Code:=seq1 (seq1 (ah 3 mD))
theorem DG:ah 3 mD = .seq (.seq Hr (.block 0 (.loop lx))) (ah 4 mD):=rfl
theorem Ny (L:Lst)(run:ar)(k:Nat)(p q:PV) :
  ∃ fr,aX (CC L) run k 3 mD ⟨entry 54 [p,q],[],[]⟩=some ⟨fr,[],[]⟩∧fr.length=54∧nth fr 0=p∧nth fr 1=q∧nth fr 5 = .sc (.slice none 0 0)∧nth fr 6=iv 0:=by
 obtain⟨e1,e2,e3⟩:=cn 52 p q
 generalize entry 54 [p,q]=fr0 at *
 simp[mD,f117,aX,e1,e2,e3,af,aH,ao,aq,aG,ag,ai,an,aj,aF,aA,FzZ,az,aa,ae,ab,iv]
theorem ZI (L:Lst)(run:ar)(k:Nat)(fr:List PV)(hp:List Blk)(wr:List Nat)(h54:fr.length=54) :
  ∃ fr',af (CC L) run k Hr ⟨fr,hp,wr⟩=some (.normal,⟨fr',hp,wr⟩)∧fr'.length=54∧nth fr' 0=nth fr 0∧nth fr' 1=nth fr 1∧nth fr' 5=nth fr 5∧nth fr' 6=nth fr 6∧nth fr' 7=iv 0:=by
 simp[Hr,mD,ah,seq1,f117,af,aH,ao,aq,aG,ag,ai,an,aj,aF,aA,FzZ,az,aa,ae,ab,h54,iv]
theorem Hq (L:Lst)(run:ar)(k:Nat)(fr:List PV)(hp:List Blk)(wr:List Nat)(p:PV)(h54:fr.length=54)(h5:nth fr 5=p) :
  ∃ st,af (CC L) run k (ah 4 mD) ⟨fr,hp,wr⟩=some (.ret,st)∧aU TT st.fr st.hp f117.results.toList=some [p]∧st.hp=hp:=by
 simp[mD,ah,f117,af,aH,ao,aq,aG,ag,ai,an,aj,aF,aA,FzZ,aa,ab,h54,h5,aU]
def yI (a b:List Nat):List Nat:=T.di (Nat.max a.length b.length+(if 10 ^ Nat.max a.length b.length≤T.val a+T.val b then 1 else 0)) (T.val a+T.val b)
def xd:List PV→Option (List PV)
 | [p,q]=>match np p,np q with
  | some a,some b=>some [bC (yI a b)]
  | _,_=>none
 | _=>none
theorem Hp:Ab.Spec base.P 117 xd:=Ab.Spec.bM (C:=CC []) (cP trivial) fun args rs h=>by
 unfold xd at h
 split at h
 ·split at h
  ·rename_i a b ea eb
   obtain⟨rfl,ha,hla⟩:=gG ea
   obtain⟨rfl,hb,hlb⟩:=gG eb
   simp only[OiE] at h
   subst h
   obtain⟨fr0,h1,h2,h3,h4,h5,h6⟩:=Ny [] (runK (CC []) (a.length+b.length+2)) (a.length+b.length+2) (bC a) (bC b)
   obtain⟨fr1,g1,g2,g3,g4,g5,g6,g7⟩:=ZI [] (runK (CC []) (a.length+b.length+2)) (a.length+b.length+2) fr0 [] [] h2
   obtain⟨fr2,hp2,wr2,out,q1,q2,q3,q4,q5,q6⟩:=xc [] (runK (CC []) (a.length+b.length+2)) (a.length+b.length+2) a b ha hb hla hlb (a.length+b.length) 0 fr1 [] [] [] 0 (by omega) (by omega) (by omega) g2 (by rw[g3,h3]) (by rw[g4,h4]) (by rw[g6,h6]) g7 (by rw[g5,h5];exact dF.nil (Nat.le_refl _)) rfl T.Dok.nil (by omega) (by simp[T.val])
   obtain⟨st,e1,e2,e3⟩:=Hq [] (runK (CC []) (a.length+b.length+2)) (a.length+b.length+2) fr2 hp2 wr2 _ q2 rfl
   have hx:af (CC []) (runK (CC []) (a.length+b.length+2)) (a.length+b.length+2) mD ⟨entry 54 [bC a,bC b],[],[]⟩=some (.ret,st):=by
    rw[aO 3 h1,DG,av ((av g1).trans (bN q1))]
    exact e1
   have hout:out=yI a b:=q4.pZ q6 q5
   obtain⟨rs2,ids,r1,r2⟩:=q3.s.HW jh
   rw[hout] at r2
   exact⟨a.length+b.length+3,_,_,_,rs2,ids,aP Jn rfl hx e2,by rw[e3];exact r1,r2⟩
  ·cases h
 ·cases h
theorem tt {L:Lst}{g:Nat}{f:List PV→Option (List PV)}(hs:base.shared g=false)(ho:bu L g=fun a=>f (aJ a))(run:ar)(dr:Bool){α:Type}{e:α→PV}(he:Sc1 e){b:Nat}{hp:List Blk}{l:List α}{p:PV}
  (hO:kf e b hp l p) (rs:List PV) (h3:f [mS e l]=some rs):∃ hp' fp,bX (CC L) run dr hp g [p]=some (jk rs,hp',fp)∧(∀ i,i<b→aY hp' i=aY hp i)∧hp'.length=hp.length:=by
 obtain⟨q,ids,h1,h2,h4⟩:=hO.arg he
 have h5:bq (snap hp bn) [p]=some ([q],ids++[]):=by
  show bq (snap hp 12) _=_
  simp only[bq,h1]
 have h6:(CC L).orc g [q]=some rs:=by
  show bu L g [q]=_
  rw[ho];show f (aJ [q])=_
  simp only[aJ,h2,h3]
 rw[append_nil] at h5
 by_cases h:rs.all eE=true
 ·exact⟨_,_,kl hs h5 h6 h,fun _ _=>rfl,rfl⟩
 ·exact⟨_,_,eJ hs h5 h6 (by simpa using h),h4,ft _ _⟩
theorem pg {L:Lst}{g:Nat}{f:List PV→Option (List PV)}(hs:base.shared g=false)(ho:bu L g=fun a=>f (aJ a))(run:ar)(dr:Bool){α:Type}{e:α→PV}(he:Sc1 e){b:Nat}{hp:List Blk}{l:List α}{p:PV}(x:Bool)
  (hO:kf e b hp l p) (rs:List PV) (h3:f [.sc (.bool x),mS e l]=some rs):∃ hp' fp,bX (CC L) run dr hp g [.sc (.bool x),p]=some (jk rs,hp',fp)∧∀ i,i<b→aY hp' i=aY hp i:=by
 obtain⟨q,ids,h1,h2,h4⟩:=hO.arg he
 have h5:bq (snap hp bn) [.sc (.bool x),p]=some ([.sc (.bool x),q],[]++(ids++[])):=by
  show bq (snap hp 12) _=_
  simp only[bq,h1]
  rfl
 have h6:(CC L).orc g [.sc (.bool x),q]=some rs:=by
  show bu L g [.sc (.bool x),q]=_
  rw[ho];show f (aJ [.sc (.bool x),q])=_
  simp only[aJ,h2]
  exact h3
 rw[append_nil,nil_append] at h5
 by_cases h:rs.all eE=true
 ·exact⟨_,_,kl hs h5 h6 h,fun _ _=>rfl⟩
 ·exact⟨_,_,eJ hs h5 h6 (by simpa using h),h4⟩
noncomputable def LT1:Lst:=[(156,iT)]
theorem Jf:dw base.P LT1:=⟨tW,trivial⟩
theorem xG:bu LT1 156=fun a=>iT (aJ a):=rfl
noncomputable def mF:Code:=((f119.body).bind aC).getD .skip
noncomputable def mE:Code:=f119.body.getD .skip
theorem NT (L:Lst)(run:ar)(k:Nat)(fr:List PV)(hp:List Blk)(wr:List Nat)(a:List Nat)(h41:fr.length=41)(h0:nth fr 0=bC a)(h7:nth fr 7=iv a.length) :
  ∃ fr',af (CC L) run k mF ⟨fr,hp,wr⟩=some (.exit 0,⟨fr',hp,wr⟩)∧fr'.length=41∧nth fr' 5=nth fr 5:=by
 simp only[iv] at h7
 simp[mF,f119,aC,af,aH,ao,aq,aG,ag,ai,an,aj,aF,aA,FzZ,bc,aw,bj,bO,aa,ae,ab,bd,dY,h41,h0,h7,uL]
set_option maxHeartbeats 4000000 in
theorem DS (L:Lst)(run:ar)(k:Nat)(fr:List PV)(hp:List Blk)(wr:List Nat)(a b out:List Nat)(i c X c':Nat)(ha:T.Dok a)(hb:T.Dok b)(hc:c≤1)(hi:i<a.length)(hi9:i<20000000)
  (hX:(at0 b i+c≤at0 a i∧X=at0 a i - (at0 b i+c)∧c'=0)∨(at0 a i<at0 b i+c∧X=at0 a i+10 - (at0 b i+c)∧c'=1))
  (h41:fr.length=41) (h0:nth fr 0=bC a) (h1:nth fr 1=bC b) (h6:nth fr 6=iv c) (h7:nth fr 7=iv i) (hO:dF iv 0 hp out (nth fr 5)) (ho:out.length=i) :
  ∃ fr' hp' wr',af (CC L) run k mF ⟨fr,hp,wr⟩=some (.normal,⟨fr',hp',wr'⟩)∧fr'.length=41∧nth fr' 0=bC a∧nth fr' 1=bC b∧nth fr' 6=iv c'∧nth fr' 7=iv (i+1)∧dF iv 0 hp' (out++[X]) (nth fr' 5):=by
 have ha9:=T.cF ha i
 have hb9:=T.cF hb i
 obtain⟨p',hp',fp,g1,g2,-⟩:=hO.app X (by omega)
 have hlX:eL TT 24 1 [(0,.sc (.int .i64 (X:Int)))]=some (1,[iv X]):=og X
 obtain⟨z1,hz1⟩:∃ z1,z1=(at0 a i:Int) - (c:Int):=⟨_,rfl⟩
 have hw1:bE .i64 ((at0 a i:Int) - (c:Int))=z1:=by rw[hz1];exact fI _ (by omega) (by omega)
 obtain⟨z,hz⟩:∃ z,z=z1 - (at0 b i:Int):=⟨_,rfl⟩
 have hw2:bE .i64 (z1 - (at0 b i:Int))=z:=by rw[hz];exact fI _ (by omega) (by omega)
 have hwi:=bH i (by omega)
 have e1:bC a = .imm a.length false (a.map iv):=rfl
 have e2:bC b = .imm b.length false (b.map iv):=rfl
 rw[e1] at h0 ⊢;rw[e2] at h1 ⊢
 have hda:=fM a i hi
 simp only[iv] at h6 h7 ⊢
 by_cases hib:i<b.length
 ·have hdb:=fM b i hib
  generalize at0 a i=x at *
  generalize at0 b i=y at *
  rcases hX with ⟨hA,hB,hC⟩| ⟨hA,hB,hC⟩
  ·have e3:z=(X:Int):=by omega
   have e4 : ¬ ((X:Int)<0):=by omega
   subst hC
   rw[e3] at hw2
   simp[mF,f119,aC,af,aH,ao,aq,aG,ag,ai,an,aj,aF,aA,FzZ,bc,aw,bj,az,bO,bg,bm,partOf,aa,ae,ab,bd,and_assoc,cX,bh,dZ,h41,h0,h1,h6,h7,uL,sI,aI,bI,zI,aV,hi,hib,hda,hdb,hw1,hw2,e4,hwi,hlX,lR,iY,cg,g1,g2]
  ·have e3:z<0:=by omega
   have e4:bE .i64 (z+10)=(X:Int):=by rw[show z+10=(X:Int) by omega];exact cG .i64 X (hiI (by omega))
   subst hC
   simp[mF,f119,aC,af,aH,ao,aq,aG,ag,ai,an,aj,aF,aA,FzZ,bc,aw,bj,az,bO,bg,bm,partOf,aa,ae,ab,bd,and_assoc,cX,bh,dZ,h41,h0,h1,h6,h7,uL,sI,aI,bI,zI,aV,hi,hib,hda,hdb,hw1,hw2,e3,e4,hwi,hlX,lR,iY,cg,g1,g2]
 ·rw[jq (Nat.le_of_not_lt hib)] at hX hz
  generalize at0 a i=x at *
  rcases hX with ⟨hA,hB,hC⟩| ⟨hA,hB,hC⟩
  ·have e3:z1=(X:Int):=by omega
   have e4 : ¬ ((X:Int)<0):=by omega
   subst hC
   rw[e3] at hw1
   simp[mF,f119,aC,af,aH,ao,aq,aG,ag,ai,an,aj,aF,aA,FzZ,bc,aw,bj,az,bO,bg,bm,partOf,aa,ae,ab,bd,and_assoc,cX,bh,dZ,h41,h0,h1,h6,h7,uL,sI,aI,bI,zI,aV,hi,hib,hda,hw1,e4,hwi,hlX,lR,iY,cg,g1,g2]
  ·have e3:z1<0:=by omega
   have e4:bE .i64 (z1+10)=(X:Int):=by rw[show z1+10=(X:Int) by omega];exact cG .i64 X (hiI (by omega))
   subst hC
   simp[mF,f119,aC,af,aH,ao,aq,aG,ag,ai,an,aj,aF,aA,FzZ,bc,aw,bj,az,bO,bg,bm,partOf,aa,ae,ab,bd,and_assoc,cX,bh,dZ,h41,h0,h1,h6,h7,uL,sI,aI,bI,zI,aV,hi,hib,hda,hw1,e3,e4,hwi,hlX,lR,iY,cg,g1,g2]
theorem HJ {va vb vo c x y P X c':Nat}(h:vo+vb=va+c*P)(hX:(y+c≤x∧X=x - (y+c)∧c'=0)∨(x<y+c∧X=x+10 - (y+c)∧c'=1))(hb:y+c≤10) :
  vo+P*X+(vb+y*P)=va+x*P+c'*(P*10):=by
 have e:X+y+c=x+10*c':=by omega
 have e2:(X+y+c)*P=(x+10*c')*P:=by rw[e]
 simp only[Nat.add_mul] at e2
 have e3:10*c'*P=c'*(P*10):=by grind
 have e4:X*P=P*X:=Nat.mul_comm _ _
 omega
theorem xm (L:Lst)(run:ar)(k:Nat)(a b:List Nat)(ha:T.Dok a)(hb:T.Dok b)(hla:a.length<10000000):∀ (n i:Nat) (fr:List PV) (hp:List Blk) (wr:List Nat) (out:List Nat) (c:Nat),i+n=a.length →
  fr.length=41→nth fr 0=bC a→nth fr 1=bC b→nth fr 6=iv c→nth fr 7=iv i→dF iv 0 hp out (nth fr 5)→out.length=i→T.Dok out→c≤1→T.val out+T.val (b.take i)=T.val (a.take i)+c*10 ^ i →
  ∃ (fr':List PV) (hp':List Blk) (wr':List Nat) (out':List Nat) (c':Nat),cu (af (CC L) run k mF) (n+1) ⟨fr,hp,wr⟩=some (.exit 0,⟨fr',hp',wr'⟩)∧fr'.length=41∧dF iv 0 hp' out' (nth fr' 5)∧out'.length=a.length∧T.Dok out'∧c'≤1∧T.val out'+T.val (b.take a.length)=T.val a+c'*10 ^ a.length
 | 0,i,fr,hp,wr,out,c,hin,h41,h0,h1,h6,h7,hO,ho,hd,hc,hv=>by
  have:i=a.length:=by omega
  subst this
  obtain⟨fr',q1,q2,q3⟩:=NT L run k fr hp wr a h41 h0 h7
  exact⟨fr',hp,wr,out,c,bD q1,q2,by rw[q3];exact hO,ho,hd,hc,by rw[hv,take_length]⟩
 | n+1,i,fr,hp,wr,out,c,hin,h41,h0,h1,h6,h7,hO,ho,hd,hc,hv=>by
  have hx:=T.cF ha i
  have hy:=T.cF hb i
  obtain⟨X,c',hX⟩:∃ X c',(at0 b i+c≤at0 a i∧X=at0 a i - (at0 b i+c)∧c'=0)∨(at0 a i<at0 b i+c∧X=at0 a i+10 - (at0 b i+c)∧c'=1):=by
   rcases Nat.lt_or_ge (at0 a i) (at0 b i+c) with h | h
   ·exact⟨_,_,.inr ⟨h,rfl,rfl⟩⟩
   ·exact⟨_,_,.inl ⟨h,rfl,rfl⟩⟩
  obtain⟨fr1,hp1,wr1,g1,g2,g3,g4,g5,g6,g7⟩:=DS L run k fr hp wr a b out i c X c' ha hb hc (by omega) (by omega) hX h41 h0 h1 h6 h7 hO ho
  obtain⟨fr',hp',wr',out',c'',q1,q2⟩:=xm L run k a b ha hb hla n (i+1) fr1 hp1 wr1 _ _ (by omega) g2 g3 g4 g5 g6 g7 (by simp[ho]) (hd.append (T.Dok.nil.cons (by omega))) (by omega) (by
   rw[T.cI,T.cI,T.dP,ho,Nat.pow_succ]
   exact HJ hv hX (by omega))
  exact⟨fr',hp',wr',out',c'',by rw[ct g1];exact q1,q2⟩
noncomputable def HL:Code:=seq1 (seq1 (ah 3 mE))
theorem DR:ah 3 mE = .seq (.seq HL (.block 0 (.loop mF))) (ah 4 mE):=rfl
theorem NS (L:Lst)(run:ar)(k:Nat)(p q:PV) :
  ∃ fr,aX (CC L) run k 3 mE ⟨entry 41 [p,q],[],[]⟩=some ⟨fr,[],[]⟩∧fr.length=41∧nth fr 0=p∧nth fr 1=q∧nth fr 5 = .sc (.slice none 0 0)∧nth fr 6=iv 0:=by
 obtain⟨e1,e2,e3⟩:=cn 39 p q
 generalize entry 41 [p,q]=fr0 at *
 simp[mE,f119,aX,e1,e2,e3,af,aH,ao,aq,aG,ag,ai,an,aj,aF,aA,FzZ,az,aa,ae,ab,iv]
theorem ZV (L:Lst)(run:ar)(k:Nat)(fr:List PV)(hp:List Blk)(wr:List Nat)(h41:fr.length=41) :
  ∃ fr',af (CC L) run k HL ⟨fr,hp,wr⟩=some (.normal,⟨fr',hp,wr⟩)∧fr'.length=41∧nth fr' 0=nth fr 0∧nth fr' 1=nth fr 1∧nth fr' 5=nth fr 5∧nth fr' 6=nth fr 6∧nth fr' 7=iv 0:=by
 simp[HL,mE,ah,seq1,f119,af,aH,ao,aq,aG,ag,ai,an,aj,aF,aA,FzZ,az,aa,ae,ab,h41,iv]
theorem HK (run:ar)(k:Nat)(fr:List PV)(hp hp':List Blk)(wr:List Nat)(p q:PV)(fp:FP)(h41:fr.length=41)(h5:nth fr 5=p)(hc:bX (CC LT1) run false hp 156 [p]=some (q,hp',fp)) :
  ∃ st,af (CC LT1) run k (ah 4 mE) ⟨fr,hp,wr⟩=some (.ret,st)∧aU TT st.fr st.hp f119.results.toList=some [q]:=by
 simp[mE,ah,f119,af,aH,ao,aq,aG,ag,ai,aL,an,aj,aF,aA,FzZ,aa,ab,h41,h5,hc,aU]
def nR:List PV→Option (List PV)
 | [p,q]=>match np p,np q with
  | some a,some b=>bif b.length.ble a.length && (T.val b).ble (T.val a) then some [bC (T.aK (T.val a - T.val b))] else none
  | _,_=>none
 | _=>none
theorem xl:Ab.Spec base.P 119 nR:=Ab.Spec.bM (C:=CC LT1) (cP Jf) fun args rs h=>by
 unfold nR at h
 split at h
 ·split at h
  ·rename_i a b ea eb
   obtain⟨rfl,ha,hla⟩:=gG ea
   obtain⟨rfl,hb,hlb⟩:=gG eb
   cases hg:b.length.ble a.length && (T.val b).ble (T.val a) with
   | false=>rw[hg] at h;cases h
   | true =>
    rw[hg] at h
    simp only[cond_true,OiE] at h
    subst h
    simp only[Bool.and_eq_true,Nat.ble_eq] at hg
    obtain⟨fr0,h1,h2,h3,h4,h5,h6⟩:=NS LT1 (runK (CC LT1) (a.length+1)) (a.length+1) (bC a) (bC b)
    obtain⟨fr1,g1,g2,g3,g4,g5,g6,g7⟩:=ZV LT1 (runK (CC LT1) (a.length+1)) (a.length+1) fr0 [] [] h2
    obtain⟨fr2,hp2,wr2,out,c,q1,q2,q3,q4,q5,q6,q7⟩:=xm LT1 (runK (CC LT1) (a.length+1)) (a.length+1) a b ha hb hla a.length 0 fr1 [] [] [] 0 (by omega) g2 (by rw[g3,h3]) (by rw[g4,h4]) (by rw[g6,h6]) g7 (by rw[g5,h5];exact dF.nil (Nat.le_refl _)) rfl T.Dok.nil (by omega) (by simp[T.val])
    rw[T.cL b _ hg.1] at q7
    have hlt:=T.fh q5
    rw[q4] at hlt
    have hv:T.val out=T.val a - T.val b:=by
     have:c=0∨c=1:=by omega
     rcases this with h | h <;> subst h <;> omega
    obtain⟨hp3,fp,c1,-⟩:=tt lQ xG (runK (CC LT1) (a.length+1)) false jh q3.s [bC (T.fw out)] (by
     have:=ed q5 (show out.length<10000000 by omega)
     simp only[bC] at this
     simp only[iT,this])
    rw[T.eX q5,hv] at c1
    obtain⟨st,e1,e2⟩:=HK (runK (CC LT1) (a.length+1)) (a.length+1) fr2 hp2 hp3 wr2 _ _ fp q2 rfl c1
    have hx:af (CC LT1) (runK (CC LT1) (a.length+1)) (a.length+1) mE ⟨entry 41 [bC a,bC b],[],[]⟩=some (.ret,st):=by
     rw[aO 3 h1,DR,av ((av g1).trans (bN q1))]
     exact e1
    exact⟨a.length+2,_,_,_,_,_,aP FO rfl hx e2,pP _ _,Wk.refl rfl,trivial⟩
  ·cases h
 ·cases h
end Go.Proofs.YtjdmodeenbdfpaaGreat
namespace Go.Ab
open Go List
def dvs (l:List Nat):List Nat:=(l.map dv).reverse
theorem yc (b:Nat)(l:List Nat):dvs (b::l)=dvs l++[dv b]:=by simp[dvs]
theorem mU (l:List Nat):(dvs l).length=l.length:=by simp[dvs]
theorem aiO {b:Nat}(h:l7 b=true):dv b<10:=by
 rw[dN] at h;unfold dv;omega
theorem fN {l:List Nat}(h:fc l=true){b:Nat}(hb:b ∈ l):l7 b=true:=by
 induction l with
 | nil=>cases hb
 | cons a l ih =>
  simp only[fc,Bool.and_eq_true] at h
  rcases mem_cons.1 hb with rfl | hb
  ·exact h.1
  ·exact ih h.2 hb
theorem IB {l:List Nat}(h:fc l=true):T.Dok (dvs l):=fun x hx=>by
 simp only[dvs,mem_reverse,mem_map] at hx
 obtain⟨b,hb,rfl⟩:=hx
 exact aiO (fN h hb)
theorem vk (l:List Nat):T.val (dvs l)=dec 0 l:=by
 induction l with
 | nil=>rfl
 | cons b l ih =>
  rw[yc,T.dP,mU,ih,rN,Ls (stp 0 b)]
  unfold stp
  rw[Nat.mul_zero,Nat.zero_add,Nat.mul_comm]
  omega
def dtx (n:Nat):List Nat:=if n=0 then [48] else (T.aK n).reverse.map (· + 48)
def itx (m:Bool)(n:Nat):List Nat:=if n=0 then [48] else (bif m then [45] else [])++(T.aK n).reverse.map (· + 48)
def ztx (z:Int):List Nat:=itx (bA z) z.natAbs
theorem aiR {x:Nat}(h:x<10):l7 (x+48)=true:=by rw[dN];omega
theorem ajM {x:Nat}(h:x<10):dv (x+48)=x:=by unfold dv;omega
theorem Fb {l:List Nat}(h:T.Dok l):fc (l.map (· + 48))=true:=by
 induction l with
 | nil=>rfl
 | cons a l ih=>simp only[map_cons,fc,aiR h.head,ih h.tail,Bool.and_self]
theorem yw {l:List Nat}(h:T.Dok l):T.Dok l.reverse:=fun x hx=>h x (mem_reverse.1 hx)
theorem acs {l:List Nat}(h:T.Dok l):dvs (l.reverse.map (· + 48))=l:=by
 unfold dvs
 rw[map_map,← map_reverse,reverse_reverse]
 conv=>rhs;rw[← map_id l]
 refine map_congr_left fun x hx => ?_
 simp[ajM (h x hx)]
theorem Wv (n:Nat):dec 0 ((T.aK n).reverse.map (· + 48))=n:=by
 rw[← vk,acs (T.cb n),T.cj]
theorem pe (n:Nat):dec 0 (dtx n)=n:=by
 unfold dtx
 by_cases h:n=0
 ·subst h;rfl
 ·rw[if_neg h,Wv]
theorem ox (n:Nat):fc (dtx n)=true:=by
 unfold dtx
 by_cases h:n=0
 ·rw[if_pos h];rfl
 ·rw[if_neg h];exact Fb (yw (T.cb n))
def yK:List Nat→Option (Bool × List Nat)
 | []=>none
 | a::l=>bif a.beq 45 then (bif fc l then some (true,l) else none) else (bif fc (a::l) then some (false,a::l) else none)
theorem sx {s:List Nat}{m:Bool}{l:List Nat}(h:yK s=some (m,l)):s=(bif m then [45] else [])++l∧fc l=true∧s≠[]:=by
 unfold yK at h
 split at h
 ·cases h
 ·rename_i a l'
  cases ha:a.beq 45 with
  | true =>
   rw[ha] at h
   simp only[cond_true] at h
   cases hd:fc l' with
   | false=>rw[hd] at h;cases h
   | true =>
    rw[hd] at h
    simp only[cond_true,OiE,PiE] at h
    obtain⟨rfl,rfl⟩:=h
    have:=Nat.eq_of_beq_eq_true ha
    exact⟨by rw[this];rfl,hd,by simp⟩
  | false =>
   rw[ha] at h
   simp only[cond_false] at h
   cases hd:fc (a::l') with
   | false=>rw[hd] at h;cases h
   | true =>
    rw[hd] at h
    simp only[cond_true,OiE,PiE] at h
    obtain⟨rfl,rfl⟩:=h
    exact⟨rfl,hd,by simp⟩
theorem RN (m:Bool)(n:Nat):yK (itx m n)=some (bif n.beq 0 then (false,[48]) else (m,(T.aK n).reverse.map (· + 48))):=by
 unfold itx
 by_cases h:n=0
 ·subst h;rfl
 ·rw[if_neg h]
  have hb:n.beq 0=false:=by
   cases n with
   | zero=>exact absurd rfl h
   | succ n=>rfl
  have hd:=Fb (yw (T.cb n))
  have hl:=T.da.2 h
  have hne:(T.aK n).reverse.map (· + 48)≠[]:=by
   intro e
   have:=congrArg List.length e
   rw[length_map,length_reverse] at this
   simp only[length_nil] at this
   omega
  rw[hb,cond_false]
  generalize (T.aK n).reverse.map (· + 48)=l at *
  cases m with
  | true=>simp only[cond_true,cons_append,nil_append,yK,hd];rfl
  | false =>
   cases l with
   | nil=>exact absurd rfl hne
   | cons a l =>
    have ha:a.beq 45=false:=by
     cases e:a.beq 45 with
     | false=>rfl
     | true =>
      have:=Nat.eq_of_beq_eq_true e
      subst this
      simp[fc,l7] at hd
    simp only[cond_false,nil_append,yK,ha,hd,cond_true]
theorem Vo (m:Bool)(n:Nat):Bok (itx m n):=by
 unfold itx
 by_cases h:n=0
 ·rw[if_pos h];exact Bok.nil.cons (by omega)
 ·rw[if_neg h]
  refine Bok.append ?_ ?_
  ·cases m
   ·exact Bok.nil
   ·exact Bok.nil.cons (by omega)
  ·intro x hx
   simp only[mem_map,mem_reverse] at hx
   obtain⟨d,hd,rfl⟩:=hx
   have:=T.cb n d hd
   omega
theorem kf.rd {α:Type}{e:α→PV}{b:Nat}{hp:List Blk}{l:List α}{p:PV}(h:kf e b hp l p):∃ ids,ew hp 1 p=some (l.length,l.map e,ids):=by
 obtain⟨hb,h⟩:=h
 rcases h with ⟨rfl,rfl⟩| ⟨id,m,x,_,_,rfl,_,h⟩
 ·exact⟨[],rfl⟩
 ·refine⟨[id],?_⟩
  have ht:bF (br ((l++m).map e) 0) (l.length*1)=some (l.map e):=by
   rw[Bd _ _ (by simp)];simp
  simp only[ew,h]
  rw[if_neg (by simp),ht]
end Go.Ab
namespace Go.Proofs.YtjdmodeenbdfpaaGreat
open Go Go.Ab List Tryz
noncomputable def uq:Code:=((f115.body).bind aC).getD .skip
noncomputable def qY:Code:=f115.body.getD .skip
theorem u8T:und TT 5=some (.int .u8):=by kernel_rfl
theorem Tj (L:Lst)(run:ar)(k:Nat)(fr:List PV)(hp:List Blk)(wr:List Nat)(h37:fr.length=37)(h6:nth fr 6 = .sc (.int .i64 (-1))) :
  ∃ fr',af (CC L) run k uq ⟨fr,hp,wr⟩=some (.exit 0,⟨fr',hp,wr⟩)∧fr'.length=37∧nth fr' 4=nth fr 4∧nth fr' 5=nth fr 5:=by
 simp[uq,f115,aC,af,aH,ao,aq,aG,ag,ai,an,aj,aF,aA,FzZ,bc,aw,bj,az,aa,ae,ab,h37,h6]
set_option maxHeartbeats 1000000 in
theorem NU (L:Lst)(run:ar)(k:Nat)(fr:List PV)(hp:List Blk)(wr:List Nat)(l:List Nat)(i:Nat)(hl:Bok l)(hi:i<l.length)(hi9:i<20000000)(h45:at0 l i=45)(h37:fr.length=37)(h0:nth fr 0 = .sc (.string (tx l)))(h6:nth fr 6=iv i) :
  ∃ fr',af (CC L) run k uq ⟨fr,hp,wr⟩=some (.normal,⟨fr',hp,wr⟩)∧fr'.length=37∧nth fr' 0 = .sc (.string (tx l))∧nth fr' 4=nth fr 4∧nth fr' 5=nth fr 5∧nth fr' 6 = .sc (.int .i64 ((i:Int) - 1)):=by
 have hx:=fo uAI hl .i64 i hi
 have hw:=cU i (by omega)
 rw[h45] at hx
 simp only[iv] at h6
 simp[uq,f115,aC,af,aH,ao,aq,aG,ag,ai,an,aj,aF,aA,FzZ,bc,aw,bj,az,aa,ae,ab,bd,h37,h0,h6,hx,hw]
set_option maxHeartbeats 1000000 in
theorem ZW (L:Lst)(run:ar)(k:Nat)(fr:List PV)(hp:List Blk)(wr:List Nat)(l out:List Nat)(i:Nat)(hl:Bok l)(hi:i<l.length)(hi9:i<20000000)(h45:l7 (at0 l i)=true)(ho9:out.length<20000000)(h37:fr.length=37)(h0:nth fr 0 = .sc (.string (tx l)))(h6:nth fr 6=iv i)(hO:dF iv 0 hp out (nth fr 5)) :
  ∃ fr' hp' wr',af (CC L) run k uq ⟨fr,hp,wr⟩=some (.normal,⟨fr',hp',wr'⟩)∧fr'.length=37∧nth fr' 0 = .sc (.string (tx l))∧nth fr' 4=nth fr 4∧dF iv 0 hp' (out++[dv (at0 l i)]) (nth fr' 5)∧nth fr' 6 = .sc (.int .i64 ((i:Int) - 1)):=by
 have hx:=fo uAI hl .i64 i hi
 rw[dN] at h45
 generalize at0 l i=b at *
 obtain⟨d,hd⟩:∃ d,d=dv b:=⟨_,rfl⟩
 rw[← hd]
 have hd2:b=d+48:=by rw[hd];unfold dv;omega
 obtain⟨p',hp',fp,g1,g2,-⟩:=hO.app d (by omega)
 have hw:=cU i (by omega)
 have hw1:=cG .i64 b (hiI (by omega))
 have hw2:=Ba .i64 b d hd2 (hiI (by omega))
 have hne:((b:Int) == 45)=false:=by rw[beq_eq_false_iff_ne];omega
 have hne2 : ¬ ((b:Int)=45):=by omega
 have hlX:eL TT 24 1 [(0,.sc (.int .i64 (d:Int)))]=some (1,[iv d]):=og d
 simp only[iv] at h6
 simp[uq,f115,aC,af,aH,ao,aq,aG,ag,ai,an,aj,aF,aA,FzZ,bc,aw,bj,az,aa,ae,ab,bd,and_assoc,bh,dZ,h37,h0,h6,hx,hne,bne,u8T,uI,dS,hw,hw1,hw2,hlX,lR,iY,uL,sI,bI,zI,cg,g1,g2]
theorem sS (L:Lst)(run:ar)(k:Nat)(m:Bool)(ds:List Nat)(hd:fc ds=true)(hl9:ds.length<10000000):∀ (n:Nat) (fr:List PV) (hp:List Blk) (wr:List Nat) (out:List Nat),n≤((bif m then [45] else [])++ds).length →
  fr.length=37→nth fr 0 = .sc (.string (tx ((bif m then [45] else [])++ds)))→nth fr 6 = .sc (.int .i64 ((n:Int) - 1))→dF iv 0 hp out (nth fr 5)→out=dvs (ds.drop (n - (bif m then 1 else 0))) →
  ∃ (fr':List PV) (hp':List Blk) (wr':List Nat),cu (af (CC L) run k uq) (n+1) ⟨fr,hp,wr⟩=some (.exit 0,⟨fr',hp',wr'⟩)∧fr'.length=37∧nth fr' 4=nth fr 4∧dF iv 0 hp' (dvs ds) (nth fr' 5)
 | 0,fr,hp,wr,out,hn,h37,h0,h6,hO,ho=>by
  obtain⟨fr',q1,q2,q3,q4⟩:=Tj L run k fr hp wr h37 (by rw[h6];rfl)
  refine⟨fr',hp,wr,bD q1,q2,q3,?_⟩
  rw[q4]
  simp only[Nat.zero_sub,drop_zero] at ho
  rw[← ho];exact hO
 | n+1,fr,hp,wr,out,hn,h37,h0,h6,hO,ho=>by
  have h6':nth fr 6=iv n:=by rw[h6];simp[iv]
  have hB:Bok ((bif m then [45] else [])++ds):=by
   refine Bok.append ?_ ?_
   ·cases m
    ·exact Bok.nil
    ·exact Bok.nil.cons (by omega)
   ·intro x hx
    have:=dN.1 (fN hd hx)
    omega
  have hlen:((bif m then [45] else [])++ds).length=(bif m then 1 else 0)+ds.length:=by cases m <;> simp;omega
  rw[hlen] at hn
  by_cases hs:m=true∧n=0
  ·obtain⟨rfl,rfl⟩:=hs
   obtain⟨fr1,g1,g2,g3,g4,g5,g6⟩:=NU L run k fr hp wr _ 0 hB (by rw[hlen];simp;omega) (by omega) rfl h37 h0 h6'
   obtain⟨fr',hp',wr',q1,q2,q3,q4⟩:=sS L run k true ds hd hl9 0 fr1 hp wr out (by omega) g2 g3 g6 (by rw[g5];exact hO) (by simpa using ho)
   exact⟨fr',hp',wr',by rw[ct g1];exact q1,q2,by rw[q3,g4],q4⟩
  ·obtain⟨j,hj,hj2⟩:∃ j,n=(bif m then 1 else 0)+j∧j<ds.length:=by
    cases m with
    | false=>exact⟨n,by simp,by simp at hn;omega⟩
    | true =>
     have:n≠0:=fun h=>hs ⟨rfl,h⟩
     exact⟨n - 1,by simp;omega,by simp at hn;omega⟩
   have hat:at0 ((bif m then [45] else [])++ds) n=ds[j]:=by
    unfold at0
    cases m with
    | false=>simp only[cond_false,nil_append,Nat.zero_add] at hj ⊢;subst hj;simp[hj2]
    | true=>simp only[cond_true] at hj ⊢;subst hj;rw[Nat.add_comm];simp[hj2]
   have hdb:l7 (at0 ((bif m then [45] else [])++ds) n)=true:=by rw[hat];exact fN hd (getElem_mem hj2)
   have hdr:n+1 - (bif m then 1 else 0)=j+1:=by rw[hj];cases m <;> simp <;> omega
   have hdr2:n - (bif m then 1 else 0)=j:=by rw[hj];cases m <;> simp
   rw[hdr] at ho
   have hol:out.length<20000000:=by rw[ho,mU,length_drop];omega
   have hn9:n<20000000:=by cases m <;> simp at hn <;> omega
   obtain⟨fr1,hp1,wr1,g1,g2,g3,g4,g5,g6⟩:=ZW L run k fr hp wr _ out n hB (by rw[hlen];omega) hn9 hdb hol h37 h0 h6' hO
   rw[hat] at g5
   obtain⟨fr',hp',wr',q1,q2,q3,q4⟩:=sS L run k m ds hd hl9 n fr1 hp1 wr1 _ (by rw[hlen];omega) g2 g3 g6 g5 (by rw[hdr2,ho,← yc,← drop_eq_getElem_cons hj2])
   exact⟨fr',hp',wr',by rw[ct g1];exact q1,q2,by rw[q3,g4],q4⟩
noncomputable def Tk:Code:=seq1 (seq1 (ah 3 qY))
theorem HM:ah 3 qY = .seq (.seq Tk (.block 0 (.loop uq))) (ah 4 qY):=rfl
set_option maxHeartbeats 1000000 in
theorem Ti (L:Lst)(run:ar)(k:Nat)(a:Nat)(l:List Nat)(hl:Bok (a::l)) :
  ∃ fr,aX (CC L) run k 3 qY ⟨entry 37 [.sc (.string (tx (a::l)))],[],[]⟩=some ⟨fr,[],[]⟩∧fr.length=37∧nth fr 0 = .sc (.string (tx (a::l)))∧nth fr 4 = .sc (.bool (decide (a=45)))∧nth fr 5 = .sc (.slice none 0 0):=by
 obtain⟨e1,e2⟩:=cW 36 (.sc (.string (tx (a::l))))
 generalize entry 37 [.sc (.string (tx (a::l)))]=fr0 at *
 have hx:iC TT 94 (.sc (.string (tx (a::l)))) (.sc (.int .i64 0))=some (.sc (.int .u8 (a:Int))):=fo uAI hl .i64 0 (by simp)
 have hb:((a:Int) == 45)=decide (a=45):=by
  by_cases h:a=45
  ·subst h;rfl
  ·rw[decide_eq_false h,beq_eq_false_iff_ne];omega
 have hp:(0:Int)<(l.length:Int)+1:=by omega
 simp[qY,f115,aX,e1,e2,af,aH,ao,aq,aG,ag,ai,an,aj,aF,aA,FzZ,bc,aw,bj,az,bO,aa,ae,ab,bd,dX,uAI,hx,hb,hp]
theorem aeu (L:Lst)(run:ar)(k:Nat)(fr:List PV)(hp:List Blk)(wr:List Nat)(l:List Nat)(hl:l.length<20000000)(h37:fr.length=37)(h0:nth fr 0 = .sc (.string (tx l))) :
  ∃ fr',af (CC L) run k Tk ⟨fr,hp,wr⟩=some (.normal,⟨fr',hp,wr⟩)∧fr'.length=37∧nth fr' 0 = .sc (.string (tx l))∧nth fr' 4=nth fr 4∧nth fr' 5=nth fr 5∧nth fr' 6 = .sc (.int .i64 ((l.length:Int) - 1)):=by
 have hw:=cU l.length (by omega)
 simp[Tk,qY,ah,seq1,f115,af,aH,ao,aq,aG,ag,ai,an,aj,aF,aA,FzZ,bc,aw,bj,az,bO,aa,ae,ab,bd,dX,h37,h0,uAI,hw]
theorem NV (run:ar)(k:Nat)(fr:List PV)(hp hp':List Blk)(wr:List Nat)(p q:PV)(m:Bool)(fp:FP)(h37:fr.length=37)(h4:nth fr 4 = .sc (.bool m))(h5:nth fr 5=p)(hc:bX (CC LT1) run false hp 156 [p]=some (q,hp',fp)) :
  ∃ st,af (CC LT1) run k (ah 4 qY) ⟨fr,hp,wr⟩=some (.ret,st)∧aU TT st.fr st.hp f115.results.toList=some [.sc (.bool m),q]:=by
 simp[qY,ah,f115,af,aH,ao,aq,aG,ag,ai,aL,an,aj,aF,aA,FzZ,aa,ae,ab,h37,h4,h5,hc,aU]
def uo:List PV→Option (List PV)
 | [.sc (.string s)]=>match yK (bys s) with
  | some (m,ds)=>bif ds.length.blt 9000000 then some [.sc (.bool m),bC (T.aK (dec 0 ds))] else none
  | none=>none
 | _=>none
theorem Ai:Ab.Spec base.P 115 uo:=Ab.Spec.bM (C:=CC LT1) (cP Jf) fun args rs h=>by
 unfold uo at h
 split at h
 ·rename_i s
  split at h
  ·rename_i m ds e
   cases hb:ds.length.blt 9000000 with
   | false=>rw[hb] at h;cases h
   | true =>
    rw[hb] at h
    simp only[cond_true,OiE] at h
    subst h
    rw[Nat.blt_eq] at hb
    obtain⟨e1,e2,e3⟩:=sx e
    have hok:=mY s
    have hs:s=tx (bys s):=(iO s).symm
    obtain⟨a,l,hal⟩:∃ a l,bys s=a::l:=by
     cases h:bys s with
     | nil=>exact absurd h e3
     | cons a l=>exact⟨a,l,rfl⟩
    have hlen:(bys s).length<20000000:=by rw[e1];cases m <;> simp <;> omega
    have hm:decide (a=45)=m:=by
     rw[hal] at e1
     cases m with
     | true=>simp at e1;simp[e1.1]
     | false =>
      simp only[cond_false,nil_append] at e1
      subst e1
      have:=dN.1 (fN e2 (mem_cons_self ..))
      simp;omega
    rw[hs,hal]
    rw[hal] at hok hlen
    obtain⟨f1,p1,p2,p3,p4,p5⟩:=Ti LT1 (runK (CC LT1) ((a::l).length+1)) ((a::l).length+1) a l hok
    obtain⟨f2,q1,q2,q3,q4,q5,q6⟩:=aeu LT1 (runK (CC LT1) ((a::l).length+1)) ((a::l).length+1) f1 [] [] (a::l) hlen p2 p3
    have e1':a::l=(bif m then [45] else [])++ds:=by rw[← hal];exact e1
    obtain⟨f3,hp3,wr3,r1,r2,r3,r4⟩:=sS LT1 (runK (CC LT1) ((a::l).length+1)) ((a::l).length+1) m ds e2 (by omega) (a::l).length f2 [] [] [] (by rw[e1'];exact Nat.le_refl _) q2 (by rw[q3,e1']) q6 (by rw[q5,p5];exact dF.nil (Nat.le_refl _)) (by rw[drop_eq_nil_of_le];rfl;rw[e1'];cases m <;> simp <;> omega)
    obtain⟨hp4,fp,c1,-⟩:=tt lQ xG (runK (CC LT1) ((a::l).length+1)) false jh r4.s [bC (T.fw (dvs ds))] (by
     have:=ed (IB e2) (show (dvs ds).length<10000000 by rw[mU];omega)
     simp only[bC] at this
     simp only[iT,this])
    rw[T.eX (IB e2),vk] at c1
    obtain⟨st,x1,x2⟩:=NV (runK (CC LT1) ((a::l).length+1)) ((a::l).length+1) f3 hp3 hp4 wr3 _ _ m fp r2 (by rw[r3,q4,p4,hm]) rfl c1
    have hx:af (CC LT1) (runK (CC LT1) ((a::l).length+1)) ((a::l).length+1) qY ⟨entry 37 [.sc (.string (tx (a::l)))],[],[]⟩=some (.ret,st):=by
     rw[aO 3 p1,HM,av ((av q1).trans (bN r1))]
     exact x1
    exact⟨(a::l).length+2,_,_,_,_,_,aP y7 rfl hx x2,rfl,Wk.refl rfl,Wk.refl rfl,trivial⟩
  ·cases h
 ·cases h
end Go.Proofs.YtjdmodeenbdfpaaGreat
