/- Contracts of num's integers, part 19; each lemma states its conditions. -/
import Derived.Test.YtjdmodeenbdfpaaGreatU18
set_option linter.unusedSimpArgs false
set_option linter.unusedVariables false
noncomputable section
namespace Go.Proofs.YtjdmodeenbdfpaaGreat
open Go Go.Ab Tryz
attribute [local simp] FzZ aB aC aD aF aG aH aM aV aX aY aa ab ae af ag ah aj an aq ar au aw bM bN ba bd bf bg bj bp bz dG partOf sB sD uB uD uW wf0 wf1
variable(L:Lst)(run:av)(k:Nat)(fr:Ψ)(hp:Θ)(wr:Ω)
def mu:Code:=((f161.body).bind az).getD .skip
def mr:Code:=f161.body.getD .skip
theorem Ow(n:Nat)(h44:fr.length=44)
  (h14:nth fr 14 = .sc (.int .i64 (n:Int))) (h15:nth fr 15 = .sc (.int .i64 (n:Int))) :
  ∃ fr',ae (CC L) run k mu ⟨fr,hp,wr⟩=some (.exit 0,⟨fr',hp,wr⟩)∧fr'.length=44∧nth fr' 5=nth fr 5:=by
 simp[mu,f161,az,h44,h14,h15]
set_option maxHeartbeats 2000000 in
theorem EH(a b out:Ω)(i c c' d:Nat)(ha:Dok a)(hb:Dok b)(hc:c≤1)(hi:i<a.length)(hl:a.length<1000000)
  (h44:fr.length=44) (h13:nth fr 13=aL a) (h14:nth fr 14 = .sc (.int .i64 (a.length:Int))) (h15:nth fr 15 = .sc (.int .i64 (i:Int))) (h1:nth fr 1=aL b)
  (h6:nth fr 6 = .sc (.int .u32 (c:Int))) (hO:dL 0 hp out (nth fr 5)) (ho:out.length=i) (hs:(at0 a i<c+at0 b i∧c'=1∧d=at0 a i+1000000000 - (c+at0 b i))∨(c+at0 b i≤at0 a i∧c'=0∧d=at0 a i - (c+at0 b i))) :
  ∃ fr' hp' wr',ae (CC L) run k mu ⟨fr,hp,wr⟩=some (.normal,⟨fr',hp',wr'⟩)∧fr'.length=44∧nth fr' 13=aL a∧nth fr' 14 = .sc (.int .i64 (a.length:Int))
   ∧ nth fr' 15 = .sc (.int .i64 ((i+1:Nat):Int))∧nth fr' 1=aL b∧nth fr' 6 = .sc (.int .u32 (c':Int))∧dL 0 hp' (out++[d]) (nth fr' 5):=by
 have hda:=eJ a i hi
 have hax:=ha.get hi
 rw[de hi] at hs
 generalize a[i]=x at *
 have e1:aL a = .imm a.length false (a.map dg):=rfl
 have e2:aL b = .imm b.length false (b.map dg):=rfl
 have hdx:dg x = .sc (.int .u32 (x:Int)):=rfl
 rw[e1] at h13 ⊢;rw[e2] at h1 ⊢;rw[hdx] at hda
 have hwi:=bE i (by omega)
 obtain⟨p',hp',fp,h7,h8,h9⟩:=hO.app d (ho ▸ Nat.lt_trans hi (Nat.lt_trans hl (by decide)))
 have hwx:bB .u32 ((x:Int)+1000000000)=((x+1000000000:Nat):Int):=dp .u32 (x+1000000000) (iC (by omega))
 have hb9:=cn hb i
 obtain⟨x2,hx2⟩:∃ x2,x2=x+1000000000:=⟨_,rfl⟩
 rw[← hx2] at hwx hs
 by_cases hib:i<b.length
 ·have hdb:=eJ b i hib
  rw[de hib] at hs hb9
  generalize b[i]=y at *
  have hdy:dg y = .sc (.int .u32 (y:Int)):=rfl
  rw[hdy] at hdb
  obtain⟨s,hs1⟩:∃ s,s=c+y:=⟨_,rfl⟩
  have hw2:bB .u32 ((c:Int)+(y:Int))=(s:Int):=dx .u32 c y s hs1 (iC (by omega))
  rw[← hs1] at hs
  rcases hs with ⟨hlt,rfl,rfl⟩| ⟨hge,rfl,rfl⟩
  ·have hw4:bB .u32 ((x2:Int) - (s:Int))=((x2 - s:Nat):Int):=jm .u32 x2 s (x2 - s) (by omega) (iC (by omega))
   generalize x2 - s=d at *
   simp[mu,f161,az,bc,bm,and_assoc,cR,du,h44,h13,h14,h15,h1,h6,s32,b32,z32,a32,hi,hib,hda,hdb,hw2,hlt,hwx,hw4,hwi,gM d,nS,nA,jF,bZ,h7,h8]
  ·have hw4:bB .u32 ((x:Int) - (s:Int))=((x - s:Nat):Int):=jm .u32 x s (x - s) (by omega) (iC (by omega))
   have hnl : ¬ (x<s):=by omega
   generalize x - s=d at *
   simp[mu,f161,az,bc,bm,and_assoc,cR,du,h44,h13,h14,h15,h1,h6,s32,b32,z32,a32,hi,hib,hda,hdb,hw2,hnl,hw4,hwi,gM d,nS,nA,jF,bZ,h7,h8]
 ·rw[jd (Nat.le_of_not_lt hib)] at hs
  simp only[Nat.add_zero] at hs
  rcases hs with ⟨hlt,rfl,rfl⟩| ⟨hge,rfl,rfl⟩
  ·have hw4:bB .u32 ((x2:Int) - (c:Int))=((x2 - c:Nat):Int):=jm .u32 x2 c (x2 - c) (by omega) (iC (by omega))
   generalize x2 - c=d at *
   simp[mu,f161,az,bc,bm,and_assoc,cR,du,h44,h13,h14,h15,h1,h6,s32,b32,z32,a32,hi,hib,hda,hlt,hwx,hw4,hwi,gM d,nS,nA,jF,bZ,h7,h8]
  ·have hw4:bB .u32 ((x:Int) - (c:Int))=((x - c:Nat):Int):=jm .u32 x c (x - c) (by omega) (iC (by omega))
   have hnl : ¬ (x<c):=by omega
   generalize x - c=d at *
   simp[mu,f161,az,bc,bm,and_assoc,cR,du,h44,h13,h14,h15,h1,h6,s32,b32,z32,a32,hi,hib,hda,hnl,hw4,hwi,gM d,nS,nA,jF,bZ,h7,h8]
theorem IB {va vb vo x c c' y d P:Nat}(h:va+c*P=vo+vb)(hs:(x<c+y∧c'=1∧d=x+1000000000 - (c+y))∨(c+y≤x∧c'=0∧d=x - (c+y)))(hc:c+y≤x+1000000000) :
  va+x*P+c'*(P*1000000000)=vo+P*d+(vb+y*P):=by
 have e:x+c'*1000000000=d+c+y:=by omega
 have e2:(x+c'*1000000000)*P=(d+c+y)*P:=by rw[e]
 simp only[Nat.add_mul] at e2
 have e3:c'*1000000000*P=c'*(P*1000000000):=by grind
 have e4:d*P=P*d:=Nat.mul_comm _ _
 omega
theorem xC (L:Lst)(run:av)(k:Nat)(a b:Ω)(ha:Dok a)(hb:Dok b)(hl:a.length<1000000):∀ (n i:Nat) (fr:Ψ) (hp:Θ) (wr:Ω) (out:Ω) (c:Nat),i+n=a.length →
  fr.length=44→nth fr 13=aL a→nth fr 14 = .sc (.int .i64 (a.length:Int))→nth fr 15 = .sc (.int .i64 (i:Int))→nth fr 1=aL b→nth fr 6 = .sc (.int .u32 (c:Int))→dL 0 hp out (nth fr 5)→out.length=i →
  Dok out→c≤1→val (a.take i)+c*1000000000 ^ i=val out+val (b.take i) →
  ∃ (fr':Ψ) (hp':Θ) (wr':Ω) (out':Ω) (c':Nat),cg (ae (CC L) run k mu) (n+1) ⟨fr,hp,wr⟩=some (.exit 0,⟨fr',hp',wr'⟩)∧fr'.length=44∧dL 0 hp' out' (nth fr' 5)∧out'.length=a.length
   ∧ Dok out'∧c'≤1∧val a+c'*1000000000 ^ a.length=val out'+val (b.take a.length)
 | 0,i,fr,hp,wr,out,c,hi,h44,h13,h14,h15,h1,h6,hO,ho,hd,hc,hv=>by
  have:i=a.length:=by omega
  subst this
  obtain⟨fr',g1,g2,g3⟩:=Ow L run k fr hp wr a.length h44 h14 h15
  exact⟨fr',hp,wr,out,c,br g1,g2,by rw[g3];exact hO,ho,hd,hc,by rw[← hv,List.take_length]⟩
 | n+1,i,fr,hp,wr,out,c,hi,h44,h13,h14,h15,h1,h6,hO,ho,hd,hc,hv=>by
  have hx:=cn ha i
  have hy:=cn hb i
  obtain⟨c',d,hs,hc',hdd⟩:∃ c' d,((at0 a i<c+at0 b i∧c'=1∧d=at0 a i+1000000000 - (c+at0 b i))∨(c+at0 b i≤at0 a i∧c'=0∧d=at0 a i - (c+at0 b i)))∧c'≤1∧d<1000000000:=by
   by_cases h:at0 a i<c+at0 b i
   ·exact⟨1,_,.inl ⟨h,rfl,rfl⟩,by omega,by omega⟩
   ·exact⟨0,_,.inr ⟨by omega,rfl,rfl⟩,by omega,by omega⟩
  obtain⟨fr1,hp1,wr1,g1,g2,g3,g4,g5,g6,g7,g8⟩:=EH L run k fr hp wr a b out i c c' d ha hb hc (by omega) hl h44 h13 h14 h15 h1 h6 hO ho hs
  obtain⟨fr',hp',wr',out',c2,q1,q2⟩:=xC L run k a b ha hb hl n (i+1) fr1 hp1 wr1 _ _ (by omega) g2 g3 g4 g5 g6 g7 g8 (by simp[ho]) (hd.append (Dok.nil.cons hdd)) hc'
   (by
    rw[cu,cu,dI,ho,Nat.pow_succ]
    exact IB hv hs (by omega))
  exact⟨fr',hp',wr',out',c2,by rw[bU g1];exact q1,q2⟩
def IG:Code:=seq1 (seq1 (ai 3 mr))
theorem EG:ai 3 mr = .seq (.seq IG (.block 0 (.loop mu))) (ai 4 mr):=rfl
theorem Ov (L:Lst)(run:av)(k:Nat)(a b:Ω)(hl:a.length<1000000)(hne:a≠[]) :
  ∃ fr hp wr,bh (CC L) run k 3 mr ⟨entry 44 [aL a,aL b],[],[]⟩=some ⟨fr,hp,wr⟩∧fr.length=44∧nth fr 0=aL a∧nth fr 1=aL b∧nth fr 6 = .sc (.int .u32 (0:Nat))∧dL 0 hp [] (nth fr 5):=by
 obtain⟨e1,e2,e3⟩:=cb 42 (aL a) (aL b)
 generalize entry 44 [aL a,aL b]=fr0 at *
 have hO:∀ n,dL 0 [⟨.live,rep n [dg 0]⟩] [] (.own 0 1 0 0 false):=fun n=>⟨Nat.zero_le _,.inr ⟨0,List.replicate n 0,Nat.le_refl _,by simp,rfl,by rw[sK];rfl⟩⟩
 have h1:a.length≤cW:=Nat.le_trans (Nat.le_of_lt hl) (by decide)
 have h2:(0 == a.length)=false:=by
  have:=List.length_pos_iff.2 hne
  simp;omega
 simp[mr,f161,bh,e1,e2,e3,bm,jQ,and_assoc,cl,s32,b32,z32,bZ,h1,h2,hO]
theorem abH(a:Ω)(h44:fr.length=44)(h0:nth fr 0=aL a) :
  ∃ fr',ae (CC L) run k IG ⟨fr,hp,wr⟩=some (.normal,⟨fr',hp,wr⟩)∧fr'.length=44∧nth fr' 13=aL a∧nth fr' 14 = .sc (.int .i64 (a.length:Int))∧nth fr' 15 = .sc (.int .i64 (0:Nat))
   ∧ nth fr' 1=nth fr 1∧nth fr' 6=nth fr 6∧nth fr' 5=nth fr 5:=by
 simp[IG,mr,ai,seq1,f161,cl,h44,h0]
theorem IE(h44:fr.length=44) :
  ∃ st,ae (CC L) run k (ai 4 mr) ⟨fr,hp,wr⟩=some (.ret,st)∧aY TT st.fr st.hp f161.results.toList=some [nth fr 5]∧st.hp=hp:=by
 simp[mr,ai,f161,h44]
def xD:Ψ→Option Ψ
 | [p,q]=>match gU p,gU q with
  | some a,some b=>bif Nat.ble (val b) (val a) && Nat.ble b.length a.length && !(a.length.beq 0) then some [aL (db a.length (val a - val b))] else none
  | _,_=>none
 | _=>none
theorem IC:Ab.Spec base.P 161 xD:=Ab.Spec.bL (C:=CC []) (cP trivial) fun args rs h=>by
 unfold xD at h
 split at h
 ·split at h
  ·rename_i a b ea eb
   obtain⟨rfl,ha,hla⟩:=dy ea
   obtain⟨rfl,hb,hlb⟩:=dy eb
   cases hc:Nat.ble (val b) (val a) && Nat.ble b.length a.length && !(a.length.beq 0) with
   | false=>rw[hc] at h;cases h
   | true =>
    rw[hc] at h
    simp only[cond_true,OiE] at h
    subst h
    simp only[Bool.and_eq_true,Nat.ble_eq,Bool.not_eq_true'] at hc
    obtain⟨⟨hle,hlen⟩,hne⟩:=hc
    have hne':a≠[]:=by intro e;subst e;simp at hne
    obtain⟨fr1,hp1,wr1,h1,h2,h3,h4,h5,h6⟩:=Ov [] (runK (CC []) (a.length+1)) (a.length+1) a b hla hne'
    obtain⟨fr2,g1,g2,g3,g4,g5,g6,g7,g8⟩:=abH [] (runK (CC []) (a.length+1)) (a.length+1) fr1 hp1 wr1 a h2 h3
    obtain⟨fr3,hp3,wr3,out,c,q1,q2,q3,q4,q5,q6,q7⟩:=xC [] (runK (CC []) (a.length+1)) (a.length+1) a b ha hb hla a.length 0 fr2 hp1 wr1 [] 0 (by simp) g2 g3 g4 g5 (by rw[g6,h4]) (by rw[g7,h5]) (by rw[g8];exact h6) rfl Dok.nil (by omega) (by simp[val])
    obtain⟨st,e1,e2,e3⟩:=IE [] (runK (CC []) (a.length+1)) (a.length+1) fr3 hp3 wr3 q2
    have hx:ae (CC []) (runK (CC []) (a.length+1)) (a.length+1) mr ⟨entry 44 [aL a,aL b],[],[]⟩=some (.ret,st):=by
     rw[aU 3 h1,EG,ao ((ao g1).trans (bD q1))]
     exact e1
    have hout:out=db a.length (val a - val b):=by
     refine q5.pQ q4 ?_
     rw[cB _ _ hlen] at q7
     have hb1:=eM q5
     rw[q4] at hb1
     have:c=0∨c=1:=by omega
     rcases this with rfl | rfl <;> omega
    obtain⟨rs2,ids,r1,r2⟩:=q3.Iu
    rw[hout] at r2
    rw[← e3] at r1
    exact⟨a.length+2,_,_,_,rs2,ids,aZ JX rfl hx e2,r1,r2⟩
  ·cases h
 ·cases h
theorem bq {L:Lst}{g:Nat}{f:Ψ→Option Ψ}(hs:base.shared g=false)(ho:bC L g=fun a=>f (aK a))(run:av)(dr:Bool)(hp:Θ)(args rs:Ψ)
  (h1:bu (snap hp bn) args=some (args,[])) (h2:aK args=args) (h3:f args=some rs):bS (CC L) run dr hp g args=some (iL rs,hp,⟨[],[],false,false⟩):=by
 have h4:(CC L).orc g args=some rs:=by
  show bC L g args=_
  rw[ho];show f (aK args)=_;rw[h2,h3]
 by_cases h:rs.all eg=true
 ·exact lQ hs h1 h4 h
 ·exact eI hs h1 h4 (by simpa using h)
theorem mN(a b:Ω):bu (snap hp bn) [aL a,aL b]=some ([aL a,aL b],[]):=rfl
theorem L0(n:Bool)(a:Ω):bu (snap hp bn) [.sc (.bool n),aL a]=some ([.sc (.bool n),aL a],[]):=rfl
theorem og(a:Int):bu (snap hp bn) [bt a]=some ([bt a],[]):=rfl
theorem gY(a b:Int):bu (snap hp bn) [bt a,bt b]=some ([bt a,bt b],[]):=rfl
theorem kg (a b:Ω):aK [aL a,aL b]=[aL a,aL b]:=by simp only[aK,fF]
theorem FL (n:Bool)(a:Ω):aK [.sc (.bool n),aL a]=[.sc (.bool n),aL a]:=by simp only[aK,fF,canon]
theorem kL (a:Int):aK [bt a]=[bt a]:=by simp only[aK,yr]
theorem fN (a b:Int):aK [bt a,bt b]=[bt a,bt b]:=by simp only[aK,yr]
def Sm (z:Int):Prop:=(aJ z.natAbs).length<400000
theorem Sm.lt {z:Int}(h:Sm z):(aJ z.natAbs).length<1000000:=Nat.lt_trans h (by decide)
theorem dV {p:PV}{z:Int}(h:fM p=some z):p=bt z∧Sm z:=Jg h
theorem cQ {z:Int}(h:Sm z):fM (bt z)=some z:=Pd z h
theorem MJ(z:Int) :
  ∃ st,ae (CC L) run k (f101.body.getD .skip) ⟨entry 11 [bt z],[],[]⟩=some (.ret,st)∧aY TT st.fr st.hp f101.results.toList=some [Ab.bJ z.sign]:=by
 obtain⟨e1,e2⟩:=cV 10 (bt z)
 generalize entry 11 [bt z]=fr0 at *
 cases z with
 | ofNat n =>
  cases n with
  | zero =>
   have e3:bt (Int.ofNat 0) = .agg [.sc (.bool false),aL []]:=rfl
   rw[e3] at e2
   simp[f101,e1,e2,cl,Ab.bJ]
  | succ n =>
   have h0:=cT.2 (Nat.succ_ne_zero n)
   have e3:bt (Int.ofNat (n+1)) = .agg [.sc (.bool false),aL (aJ (n+1))]:=rfl
   rw[e3] at e2
   have e4:(Int.ofNat (n+1)).sign=1:=rfl
   rw[e4]
   generalize aJ (n+1)=l at *
   have h1:((l.length:Int) == 0)=false:=by simp;intro h;subst h;simp at h0
   have h2:l≠[]:=by intro h;subst h;simp at h0
   simp[f101,e1,e2,cl,Ab.bJ,h1]
 | negSucc n =>
   have h0:=cT.2 (Nat.succ_ne_zero n)
   have e3:bt (Int.negSucc n) = .agg [.sc (.bool true),aL (aJ (n+1))]:=rfl
   rw[e3] at e2
   have e4:(Int.negSucc n).sign = -1:=rfl
   rw[e4]
   generalize aJ (n+1)=l at *
   have h1:((l.length:Int) == 0)=false:=by simp;intro h;subst h;simp at h0
   have h2:l≠[]:=by intro h;subst h;simp at h0
   simp[f101,e1,e2,cl,Ab.bJ,h1]
def js:Ψ→Option Ψ
 | [p]=>match fM p with
  | some z=>some [Ab.bJ z.sign]
  | none=>none
 | _=>none
theorem jT:Ab.Spec base.P 101 js:=Ab.Spec.bL (C:=CC []) (cP trivial) fun args rs h=>by
 unfold js at h
 split at h
 ·split at h
  ·rename_i z hz
   obtain⟨rfl,-⟩:=dV hz
   simp only[OiE] at h
   subst h
   obtain⟨st,e1,e2⟩:=MJ [] (runK (CC []) 1) 1 z
   exact⟨2,_,_,_,_,_,aZ PU rfl e1 e2,eB _ _,Wk.refl rfl,trivial⟩
  ·cases h
 ·cases h
def L1:Lst:=[(167,jo),(152,fx),(160,Eh),(161,xD),(146,tG)]
theorem Mf:dt base.P L1:=⟨iV,jr,N7,IC,zv,trivial⟩
theorem On:bC L1 152=fun a=>fx (aK a):=rfl
theorem abm:bC L1 160=fun a=>Eh (aK a):=rfl
theorem UB:bC L1 161=fun a=>xD (aK a):=rfl
theorem abl:bC L1 146=fun a=>tG (aK a):=rfl
theorem kM (run:av)(dr:Bool)(hp:Θ)(n:Bool)(l:Ω)(hd:Dok l)(hl:l.length<1000000) :
  bS (CC L1) run dr hp 152 [.sc (.bool n),aL l]=some (bt (sgn n (val l)),hp,⟨[],[],false,false⟩) :=
 bq oD On run dr hp _ [bt (sgn n (val l))] (L0 hp n l) (FL n l) (by simp only[fx,cZ hd hl])
theorem Pr (run:av)(dr:Bool)(hp:Θ)(a b:Ω)(ha:Dok a)(hla:a.length<1000000)(hb:Dok b)(hlb:b.length<1000000) :
  bS (CC L1) run dr hp 160 [aL a,aL b]=some (aL (db (Nat.max a.length b.length+1) (val a+val b)),hp,⟨[],[],false,false⟩) :=
 bq Y3 abm run dr hp _ [aL (db (Nat.max a.length b.length+1) (val a+val b))] (mN hp a b) (kg a b) (by simp only[Eh,cZ ha hla,cZ hb hlb])
theorem yt (run:av)(dr:Bool)(hp:Θ)(a b:Ω)(ha:Dok a)(hla:a.length<1000000)(hb:Dok b)(hlb:b.length<1000000)(h:val b≤val a)(h':b.length≤a.length)(h0:a.length≠0) :
  bS (CC L1) run dr hp 161 [aL a,aL b]=some (aL (db a.length (val a - val b)),hp,⟨[],[],false,false⟩) :=
 bq RJ UB run dr hp _ [aL (db a.length (val a - val b))] (mN hp a b) (kg a b) (by
  have h1:Nat.ble (val b) (val a)=true:=by rw[Nat.ble_eq];exact h
  have h2:Nat.ble b.length a.length=true:=by rw[Nat.ble_eq];exact h'
  have h3:a.length.beq 0=false:=by
   cases e:a.length with
   | zero=>exact absurd e h0
   | succ n=>rfl
  simp[xD,cZ ha hla,cZ hb hlb,h1,h2,h3])
theorem o0 (run:av)(dr:Bool)(hp:Θ)(a b:Ω)(ha:Dok a)(hla:a.length<1000000)(hb:Dok b)(hlb:b.length<1000000) :
  bS (CC L1) run dr hp 146 [aL a,aL b]=some (Ab.bJ (pg a b),hp,⟨[],[],false,false⟩) :=
 bq KG abl run dr hp _ [Ab.bJ (pg a b)] (mN hp a b) (kg a b) (by simp only[tG,cZ ha hla,cZ hb hlb])
theorem UJ(n:Bool)(l:Ω)(hd:Dok l)(hl:l.length<1000000) :
  ∃ st,ae (CC L1) run k (f149.body.getD .skip) ⟨entry 9 [wh n l],[],[]⟩=some (.ret,st)∧aY TT st.fr st.hp f149.results.toList=some [bt (sgn (!n) (val l))]:=by
 have hc:=fun hp dr=>kM run dr hp (!n) l hd hl
 obtain⟨e1,e2⟩:=cV 8 (wh n l)
 generalize entry 9 [wh n l]=fr0 at *
 have e3:wh n l = .agg [.sc (.bool n),aL l]:=rfl
 have e4:bt (sgn (!n) (val l)) = .agg [.sc (.bool (bw (sgn (!n) (val l)))),aL (aJ (sgn (!n) (val l)).natAbs)]:=rfl
 rw[e3] at e2
 rw[e4] at hc ⊢
 generalize aJ (sgn (!n) (val l)).natAbs=m at *
 generalize bw (sgn (!n) (val l))=nn at *
 simp[f149,e1,e2,unP,cf,bH,hc,sW,aW,zW,cF,b9,bF]
theorem aeA (z:Int):sgn (bw z) z.natAbs=z:=by
 cases z with
 | ofNat n=>rfl
 | negSucc n=>rfl
theorem ZH (z:Int):sgn (!bw z) z.natAbs = -z:=by
 cases z with
 | ofNat n=>show Int.negOfNat n = -(Int.ofNat n);cases n <;> rfl
 | negSucc n=>rfl
def sZ:Ψ→Option Ψ
 | [p]=>match fM p with
  | some z=>some [bt (-z)]
  | none=>none
 | _=>none
theorem nL:Ab.Spec base.P 149 sZ:=Ab.Spec.bL (C:=CC L1) (cP Mf) fun args rs h=>by
 unfold sZ at h
 split at h
 ·split at h
  ·rename_i z hz
   obtain⟨rfl,hs⟩:=dV hz
   simp only[OiE] at h
   subst h
   obtain⟨st,e1,e2⟩:=UJ (runK (CC L1) 1) 1 (bw z) (aJ z.natAbs) (bV _) hs.lt
   rw[bX,ZH] at e2
   exact⟨2,_,_,_,_,_,aZ X2 rfl e1 e2,jv _ _,Wk.refl rfl,trivial⟩
  ·cases h
 ·cases h
def JA:Code:=f139.body.getD .skip
theorem whW (z:Int):bt z = .agg [.sc (.bool (bw z)),aL (aJ z.natAbs)]:=rfl
set_option maxHeartbeats 1000000 in
theorem PI(n:Bool)(a b:Ω)(ha:Dok a)(hla:a.length<400000)(hb:Dok b)(hlb:b.length<400000) :
  ∃ st,ae (CC L1) run k JA ⟨entry 42 [wh n a,wh n b],[],[]⟩=some (.ret,st)∧aY TT st.fr st.hp f139.results.toList=some [bt (sgn n (val a+val b))]:=by
 have hm:Nat.max a.length b.length≤400000:=Nat.max_le.2 ⟨by omega,by omega⟩
 have hv:val (db (Nat.max a.length b.length+1) (val a+val b))=val a+val b:=fj _ _ (by
  have h1:=eM ha
  have h2:=eM hb
  have h3:=Nat.pow_le_pow_right (n:=1000000000) (by omega) (Nat.le_max_left a.length b.length)
  have h4:=Nat.pow_le_pow_right (n:=1000000000) (by omega) (Nat.le_max_right a.length b.length)
  have h5:a.length.max b.length=max a.length b.length:=rfl
  rw[h5,Nat.pow_succ];omega)
 have hc:=fun hp dr=>Pr run dr hp a b ha (by omega) hb (by omega)
 have hc2:=fun hp dr=>kM run dr hp n (db (Nat.max a.length b.length+1) (val a+val b)) (gn _ _) (by rw[dq];omega)
 rw[hv] at hc2
 generalize db (Nat.max a.length b.length+1) (val a+val b)=m at *
 obtain⟨e1,e2,e3⟩:=cb 40 (wh n a) (wh n b)
 generalize entry 42 [wh n a,wh n b]=fr0 at *
 have e4:∀ l,wh n l = .agg [.sc (.bool n),aL l]:=fun _=>rfl
 rw[e4] at e2 e3
 simp only[whW] at hc2 ⊢
 generalize aJ (sgn n (val a+val b)).natAbs=r at *
 generalize bw (sgn n (val a+val b))=nn at *
 simp[JA,f139,e1,e2,e3,cf,bH,hc,hc2,sW,aW,zW,cF,b9,bF,number,FP.free,cC,FP.apart]
theorem lV (x y:Nat):pg (aJ x) (aJ y)=dR x y:=by
 unfold pg
 by_cases h1:(aJ x).length<(aJ y).length
 ·rw[if_pos h1,dR,if_pos]
  exact Nat.lt_of_not_le fun h=>absurd (cw h) (by omega)
 ·rw[if_neg h1]
  by_cases h2:(aJ y).length<(aJ x).length
  ·have h3:y<x:=Nat.lt_of_not_le fun h=>absurd (cw h) (by omega)
   rw[if_pos h2,dR,if_neg (by omega),if_neg (by omega)]
  ·rw[if_neg h2,bX,bX]
set_option maxHeartbeats 1000000 in
theorem PH(n:Bool)(x y:Nat)(hla:(aJ x).length<400000)(hlb:(aJ y).length<400000)(hxy:x<y) :
  ∃ st,ae (CC L1) run k JA ⟨entry 42 [wh n (aJ x),wh (!n) (aJ y)],[],[]⟩=some (.ret,st)∧aY TT st.fr st.hp f139.results.toList=some [bt (sgn (!n) (y - x))]:=by
 have hv:val (db (aJ y).length (y - x))=y - x:=fj _ _ (Nat.lt_of_le_of_lt (Nat.sub_le _ _) (fA y))
 have hy0:(aJ y).length≠0:=by
  have:=(cT (n:=y)).2 (by omega)
  omega
 have hc0:=fun hp dr=>o0 run dr hp (aJ x) (aJ y) (bV _) (by omega) (bV _) (by omega)
 rw[lV,dR,if_pos hxy] at hc0
 have hc:=fun hp dr=>yt run dr hp (aJ y) (aJ x) (bV _) (by omega) (bV _) (by omega) (by rw[bX,bX];omega) (cw (Nat.le_of_lt hxy)) hy0
 rw[bX,bX] at hc
 have hc2:=fun hp dr=>kM run dr hp (!n) (db (aJ y).length (y - x)) (gn _ _) (by rw[dq];omega)
 rw[hv] at hc2
 generalize db (aJ y).length (y - x)=m at *
 obtain⟨e1,e2,e3⟩:=cb 40 (wh n (aJ x)) (wh (!n) (aJ y))
 generalize entry 42 [wh n (aJ x),wh (!n) (aJ y)]=fr0 at *
 have e4:∀ n l,wh n l = .agg [.sc (.bool n),aL l]:=fun _ _=>rfl
 rw[e4] at e2 e3
 simp only[whW] at hc2 ⊢
 generalize aJ (sgn (!n) (y - x)).natAbs=r at *
 generalize bw (sgn (!n) (y - x))=nn at *
 have hnn:(n == !n)=false:=by cases n <;> rfl
 simp only[Ab.bJ] at hc0
 simp[JA,f139,e1,e2,e3,cf,bH,hc,hc0,hc2,hnn,sW,aW,zW,cF,b9,bF,number,FP.free,cC,FP.apart]
set_option maxHeartbeats 1000000 in
theorem PG(n:Bool)(x y:Nat)(hla:(aJ x).length<400000)(hlb:(aJ y).length<400000)(hxy:y≤x)(hx:x≠0) :
  ∃ st,ae (CC L1) run k JA ⟨entry 42 [wh n (aJ x),wh (!n) (aJ y)],[],[]⟩=some (.ret,st)∧aY TT st.fr st.hp f139.results.toList=some [bt (sgn n (x - y))]:=by
 have hv:val (db (aJ x).length (x - y))=x - y:=fj _ _ (Nat.lt_of_le_of_lt (Nat.sub_le _ _) (fA x))
 have hx0:(aJ x).length≠0:=by
  have:=(cT (n:=x)).2 (by omega)
  omega
 have hc0:=fun hp dr=>o0 run dr hp (aJ x) (aJ y) (bV _) (by omega) (bV _) (by omega)
 have hcz:decide (dR x y<0)=false:=by
  apply decide_eq_false
  unfold dR
  rw[if_neg (by omega)]
  by_cases h:x=y
  ·rw[if_pos h];omega
  ·rw[if_neg h];omega
 have hcz' : ¬ (dR x y<0):=by simpa using hcz
 rw[lV] at hc0
 have hc:=fun hp dr=>yt run dr hp (aJ x) (aJ y) (bV _) (by omega) (bV _) (by omega) (by rw[bX,bX];omega) (cw hxy) hx0
 rw[bX,bX] at hc
 have hc2:=fun hp dr=>kM run dr hp n (db (aJ x).length (x - y)) (gn _ _) (by rw[dq];omega)
 rw[hv] at hc2
 generalize db (aJ x).length (x - y)=m at *
 obtain⟨e1,e2,e3⟩:=cb 40 (wh n (aJ x)) (wh (!n) (aJ y))
 generalize entry 42 [wh n (aJ x),wh (!n) (aJ y)]=fr0 at *
 have e4:∀ n l,wh n l = .agg [.sc (.bool n),aL l]:=fun _ _=>rfl
 rw[e4] at e2 e3
 simp only[whW] at hc2 ⊢
 generalize aJ (sgn n (x - y)).natAbs=r at *
 generalize bw (sgn n (x - y))=nn at *
 have hnn:(n == !n)=false:=by cases n <;> rfl
 simp only[Ab.bJ] at hc0
 generalize dR x y=cc at *
 simp[JA,f139,e1,e2,e3,cf,bH,hc,hc0,hc2,hnn,hcz',sW,aW,zW,cF,b9,bF,number,FP.free,cC,FP.apart]
theorem sz (n:Bool)(v:Nat):sgn n v=if n=true then -(v:Int) else (v:Int):=by
 cases n with
 | false=>rfl
 | true =>
  show Int.negOfNat v=_
  cases v <;> rfl
theorem ZJ {x y:Int}(h:bw x=bw y):sgn (bw x) (x.natAbs+y.natAbs)=x+y:=by
 rw[sz]
 rw[cK,cK] at h
 rw[cK]
 by_cases hx:x<0 <;> by_cases hy:y<0 <;> simp[hx,hy] at h ⊢ <;> omega
theorem RZ {x y:Int}(h : ¬ bw x=bw y)(hl:x.natAbs<y.natAbs):sgn (!bw x) (y.natAbs - x.natAbs)=x+y:=by
 rw[sz]
 rw[cK,cK] at h
 rw[cK]
 by_cases hx:x<0 <;> by_cases hy:y<0 <;> simp[hx,hy] at h ⊢ <;> omega
theorem RY {x y:Int}(h : ¬ bw x=bw y)(hl:y.natAbs≤x.natAbs):sgn (bw x) (x.natAbs - y.natAbs)=x+y:=by
 rw[sz]
 rw[cK,cK] at h
 rw[cK]
 by_cases hx:x<0 <;> by_cases hy:y<0 <;> simp[hx,hy] at h ⊢ <;> omega
theorem XM(x y:Int)(hx:Sm x)(hy:Sm y) :
  ∃ st,ae (CC L1) run k JA ⟨entry 42 [bt x,bt y],[],[]⟩=some (.ret,st)∧aY TT st.fr st.hp f139.results.toList=some [bt (x+y)]:=by
 by_cases hn:bw x=bw y
 ·have:=PI run k (bw x) (aJ x.natAbs) (aJ y.natAbs) (bV _) hx (bV _) hy
  rw[bX,bX] at this
  rw[ZJ hn] at this
  simp only[bt]
  rw[← hn];exact this
 ·have hn':bw y = !bw x:=by
   revert hn;cases bw x <;> cases bw y <;> simp
  by_cases hxy:x.natAbs<y.natAbs
  ·have:=PH run k (bw x) x.natAbs y.natAbs hx hy hxy
   rw[RZ hn hxy] at this
   simp only[bt]
   rw[hn'];exact this
  ·have hx0:x.natAbs≠0:=by
    intro h0
    have:y.natAbs=0:=by omega
    have hx:x=0:=by omega
    have hy:y=0:=by omega
    subst hx;subst hy
    exact hn rfl
   have:=PG run k (bw x) x.natAbs y.natAbs hx hy (by omega) hx0
   rw[RY hn (by omega)] at this
   simp only[bt]
   rw[hn'];exact this
def tv:Ψ→Option Ψ
 | [p,q]=>match fM p,fM q with
  | some x,some y=>some [bt (x+y)]
  | _,_=>none
 | _=>none
theorem oo:Ab.Spec base.P 139 tv:=Ab.Spec.bL (C:=CC L1) (cP Mf) fun args rs h=>by
 unfold tv at h
 split at h
 ·split at h
  ·rename_i x y ex ey
   obtain⟨rfl,hx⟩:=dV ex
   obtain⟨rfl,hy⟩:=dV ey
   simp only[OiE] at h
   subst h
   obtain⟨st,e1,e2⟩:=XM (runK (CC L1) 1) 1 x y hx hy
   exact⟨2,_,_,_,_,_,aZ X7 rfl e1 e2,jv _ _,Wk.refl rfl,trivial⟩
  ·cases h
 ·cases h
def L2:Lst:=[(149,sZ),(139,tv)]
theorem ajC:dt base.P L2:=⟨nL,oo,trivial⟩
theorem afy:bC L2 149=fun a=>sZ (aK a):=rfl
theorem afz:bC L2 139=fun a=>tv (aK a):=rfl
theorem Sm.neg {z:Int}(h:Sm z):Sm (-z):=by unfold Sm at *;rwa [Int.natAbs_neg]
theorem W9 (run:av)(dr:Bool)(hp:Θ)(x:Int)(hx:Sm x):bS (CC L2) run dr hp 149 [bt x]=some (bt (-x),hp,⟨[],[],false,false⟩) :=
 bq Hd afy run dr hp _ [bt (-x)] (og hp x) (kL x) (by simp only[sZ,cQ hx])
theorem Xt (run:av)(dr:Bool)(hp:Θ)(x y:Int)(hx:Sm x)(hy:Sm y):bS (CC L2) run dr hp 139 [bt x,bt y]=some (bt (x+y),hp,⟨[],[],false,false⟩) :=
 bq Hf afz run dr hp _ [bt (x+y)] (gY hp x y) (fN x y) (by simp only[tv,cQ hx,cQ hy])
def ahI:Code:=f168.body.getD .skip
theorem Q4(x y:Int)(hx:Sm x)(hy:Sm y) :
  ∃ st,ae (CC L2) run k ahI ⟨entry 9 [bt x,bt y],[],[]⟩=some (.ret,st)∧aY TT st.fr st.hp f168.results.toList=some [bt (x - y)]:=by
 have hc1:=fun hp dr=>W9 run dr hp y hy
 have hc2:=fun hp dr=>Xt run dr hp x (-y) hx hy.neg
 rw[← Int.sub_eq_add_neg] at hc2
 obtain⟨e1,e2,e3⟩:=cb 7 (bt x) (bt y)
 generalize entry 9 [bt x,bt y]=fr0 at *
 simp only[whW] at hc1 hc2 e2 e3 ⊢
 generalize aJ (-y).natAbs=ry at *
 generalize bw (-y)=ny at *
 generalize aJ (x - y).natAbs=rz at *
 generalize bw (x - y)=nz at *
 generalize aJ x.natAbs=rx at *
 generalize bw x=nx at *
 generalize aJ y.natAbs=rw at *
 generalize bw y=nw at *
 simp[ahI,f168,e1,e2,e3,cf,bH,hc1,hc2,sW,aW,zW,cF,b9,bF,number,FP.free,cC,FP.apart]
def GG:Ψ→Option Ψ
 | [p,q]=>match fM p,fM q with
  | some x,some y=>some [bt (x - y)]
  | _,_=>none
 | _=>none
theorem vX:Ab.Spec base.P 168 GG:=Ab.Spec.bL (C:=CC L2) (cP ajC) fun args rs h=>by
 unfold GG at h
 split at h
 ·split at h
  ·rename_i x y ex ey
   obtain⟨rfl,hx⟩:=dV ex
   obtain⟨rfl,hy⟩:=dV ey
   simp only[OiE] at h
   subst h
   obtain⟨st,e1,e2⟩:=Q4 (runK (CC L2) 1) 1 x y hx hy
   exact⟨2,_,_,_,_,_,aZ X1 rfl e1 e2,jv _ _,Wk.refl rfl,trivial⟩
  ·cases h
 ·cases h
def Jh:Code:=f96.body.getD .skip
theorem Pk(n:Bool)(a b:Ω) :
  ∃ st,ae (CC L) run k Jh ⟨entry 26 [wh n a,wh (!n) b],[],[]⟩=some (.ret,st)∧aY TT st.fr st.hp f96.results.toList=some [Ab.bJ (bif n then -1 else 1)]:=by
 obtain⟨e1,e2,e3⟩:=cb 24 (wh n a) (wh (!n) b)
 generalize entry 26 [wh n a,wh (!n) b]=fr0 at *
 have e4:∀ n l,wh n l = .agg [.sc (.bool n),aL l]:=fun _ _=>rfl
 rw[e4] at e2 e3
 cases n
 ·simp[Jh,f96,e1,e2,e3,Ab.bJ]
 ·simp[Jh,f96,e1,e2,e3,Ab.bJ]
theorem Ph(n:Bool)(x y:Nat)(hla:(aJ x).length<400000)(hlb:(aJ y).length<400000) :
  ∃ st,ae (CC L1) run k Jh ⟨entry 26 [wh n (aJ x),wh n (aJ y)],[],[]⟩=some (.ret,st)∧aY TT st.fr st.hp f96.results.toList=some [Ab.bJ (bif n then dR y x else dR x y)]:=by
 have hc0:=fun hp dr=>o0 run dr hp (aJ x) (aJ y) (bV _) (by omega) (bV _) (by omega)
 have hc1:=fun hp dr=>o0 run dr hp (aJ y) (aJ x) (bV _) (by omega) (bV _) (by omega)
 rw[lV] at hc0 hc1
 obtain⟨e1,e2,e3⟩:=cb 24 (wh n (aJ x)) (wh n (aJ y))
 generalize entry 26 [wh n (aJ x),wh n (aJ y)]=fr0 at *
 have e4:∀ n l,wh n l = .agg [.sc (.bool n),aL l]:=fun _ _=>rfl
 rw[e4] at e2 e3
 simp only[Ab.bJ] at hc0 hc1
 generalize dR x y=cc at *
 generalize dR y x=dd at *
 cases n
 ·simp[Jh,f96,e1,e2,e3,hc0,Ab.bJ]
 ·simp[Jh,f96,e1,e2,e3,hc1,Ab.bJ]
def fX (x y:Int):Int:=if x<y then -1 else if x=y then 0 else 1
theorem WQ(x y:Int)(hx:Sm x)(hy:Sm y) :
  ∃ st,ae (CC L1) run k Jh ⟨entry 26 [bt x,bt y],[],[]⟩=some (.ret,st)∧aY TT st.fr st.hp f96.results.toList=some [Ab.bJ (fX x y)]:=by
 by_cases hn:bw x=bw y
 ·have:=Ph run k (bw x) x.natAbs y.natAbs hx hy
  have e:(bif bw x then dR y.natAbs x.natAbs else dR x.natAbs y.natAbs)=fX x y:=by
   rw[cK,cK] at hn
   rw[cK]
   unfold fX dR
   by_cases hx:x<0 <;> by_cases hy:y<0 <;> simp[hx,hy] at hn ⊢
   ·by_cases h1:x<y
    ·rw[if_pos (by omega),if_pos h1]
    ·rw[if_neg (by omega),if_neg h1]
     by_cases h2:x=y
     ·rw[if_pos (by omega),if_pos h2]
     ·rw[if_neg (by omega),if_neg h2]
   ·by_cases h1:x<y
    ·rw[if_pos (by omega),if_pos h1]
    ·rw[if_neg (by omega),if_neg h1]
     by_cases h2:x=y
     ·rw[if_pos (by omega),if_pos h2]
     ·rw[if_neg (by omega),if_neg h2]
  rw[e] at this
  simp only[bt]
  rw[← hn];exact this
 ·have hn':bw y = !bw x:=by
   revert hn;cases bw x <;> cases bw y <;> simp
  have:=Pk L1 run k (bw x) (aJ x.natAbs) (aJ y.natAbs)
  have e:(bif bw x then (-1:Int) else 1)=fX x y:=by
   rw[cK,cK] at hn
   rw[cK]
   unfold fX
   by_cases hx:x<0 <;> by_cases hy:y<0 <;> simp[hx,hy] at hn ⊢
   ·intro h;omega
   ·rw[if_neg (by omega),if_neg (by omega)]
  rw[e] at this
  simp only[bt]
  rw[hn'];exact this
def uX:Ψ→Option Ψ
 | [p,q]=>match fM p,fM q with
  | some x,some y=>some [Ab.bJ (fX x y)]
  | _,_=>none
 | _=>none
theorem oc:Ab.Spec base.P 96 uX:=Ab.Spec.bL (C:=CC L1) (cP Mf) fun args rs h=>by
 unfold uX at h
 split at h
 ·split at h
  ·rename_i x y ex ey
   obtain⟨rfl,hx⟩:=dV ex
   obtain⟨rfl,hy⟩:=dV ey
   simp only[OiE] at h
   subst h
   obtain⟨st,e1,e2⟩:=WQ (runK (CC L1) 1) 1 x y hx hy
   exact⟨2,_,_,_,_,_,aZ X6 rfl e1 e2,eB _ _,Wk.refl rfl,trivial⟩
  ·cases h
 ·cases h
end Go.Proofs.YtjdmodeenbdfpaaGreat
end
