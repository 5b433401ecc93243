/- Contracts of num's integers, part 14 of the proof; each lemma states its own conditions. -/
import Derived.Test.YtjdmodeenbdfpaaGreatT13
set_option linter.unusedSimpArgs false
set_option linter.unusedVariables false
noncomputable section
namespace Go.Proofs.YtjdmodeenbdfpaaGreat
open Go Go.Ab Tryz
attribute [local simp] FzZ aA aB aD aF aG aH aL aM aU aV aY aa ab ae af ag ai aj an ao aq aw az bO bQ bc bd bh bj bp br dT partOf sB sD uB uD uW wf0 wf1
variable(L:Lst)(run:ar)(k:Nat)(fr:List PV)(hp:List Blk)(wr:List Nat)
def mM:Code:=((f161.body).bind aC).getD .skip
def mL:Code:=f161.body.getD .skip
theorem Ol(n:Nat)(h44:fr.length=44)
  (h14:nth fr 14 = .sc (.int .i64 (n:Int))) (h15:nth fr 15 = .sc (.int .i64 (n:Int))) :
  ∃ fr',af (CC L) run k mM ⟨fr,hp,wr⟩=some (.exit 0,⟨fr',hp,wr⟩)∧fr'.length=44∧nth fr' 5=nth fr 5:=by
 simp[mM,f161,aC,h44,h14,h15]
set_option maxHeartbeats 2000000 in
theorem Ew(a b out:List Nat)(i c c' d:Nat)(ha:Dok a)(hb:Dok b)(hc:c≤1)(hi:i<a.length)(hl:a.length<1000000)
  (h44:fr.length=44) (h13:nth fr 13=aQ a) (h14:nth fr 14 = .sc (.int .i64 (a.length:Int))) (h15:nth fr 15 = .sc (.int .i64 (i:Int))) (h1:nth fr 1=aQ b)
  (h6:nth fr 6 = .sc (.int .u32 (c:Int))) (hO:dU 0 hp out (nth fr 5)) (ho:out.length=i) (hs:(at0 a i<c+at0 b i∧c'=1∧d=at0 a i+1000000000 - (c+at0 b i))∨(c+at0 b i≤at0 a i∧c'=0∧d=at0 a i - (c+at0 b i))) :
  ∃ fr' hp' wr',af (CC L) run k mM ⟨fr,hp,wr⟩=some (.normal,⟨fr',hp',wr'⟩)∧fr'.length=44∧nth fr' 13=aQ a∧nth fr' 14 = .sc (.int .i64 (a.length:Int))
   ∧ nth fr' 15 = .sc (.int .i64 ((i+1:Nat):Int))∧nth fr' 1=aQ b∧nth fr' 6 = .sc (.int .u32 (c':Int))∧dU 0 hp' (out++[d]) (nth fr' 5):=by
 have hda:=ff a i hi
 have hax:=ha.get hi
 rw[dm hi] at hs
 generalize a[i]=x at *
 have e1:aQ a = .imm a.length false (a.map dg):=rfl
 have e2:aQ b = .imm b.length false (b.map dg):=rfl
 have hdx:dg x = .sc (.int .u32 (x:Int)):=rfl
 rw[e1] at h13 ⊢;rw[e2] at h1 ⊢;rw[hdx] at hda
 have hwi:=bH i (by omega)
 obtain⟨p',hp',fp,h7,h8,h9⟩:=hO.app d (ho ▸ Nat.lt_trans hi (Nat.lt_trans hl (by decide)))
 have hwx:bE .u32 ((x:Int)+1000000000)=((x+1000000000:Nat):Int):=dG .u32 (x+1000000000) (iZ (by omega))
 have hb9:=cF hb i
 obtain⟨x2,hx2⟩:∃ x2,x2=x+1000000000:=⟨_,rfl⟩
 rw[← hx2] at hwx hs
 by_cases hib:i<b.length
 ·have hdb:=ff b i hib
  rw[dm hib] at hs hb9
  generalize b[i]=y at *
  have hdy:dg y = .sc (.int .u32 (y:Int)):=rfl
  rw[hdy] at hdb
  obtain⟨s,hs1⟩:∃ s,s=c+y:=⟨_,rfl⟩
  have hw2:bE .u32 ((c:Int)+(y:Int))=(s:Int):=dD .u32 c y s hs1 (iZ (by omega))
  rw[← hs1] at hs
  rcases hs with ⟨hlt,rfl,rfl⟩| ⟨hge,rfl,rfl⟩
  ·have hw4:bE .u32 ((x2:Int) - (s:Int))=((x2 - s:Nat):Int):=zf .u32 x2 s (x2 - s) (by omega) (iZ (by omega))
   generalize x2 - s=d at *
   simp[mM,f161,aC,bg,bm,and_assoc,cX,dE,h44,h13,h14,h15,h1,h6,s32,b32,z32,a32,hi,hib,hda,hdb,hw2,hlt,hwx,hw4,hwi,il d,oh,nM,jV,cg,h7,h8]
  ·have hw4:bE .u32 ((x:Int) - (s:Int))=((x - s:Nat):Int):=zf .u32 x s (x - s) (by omega) (iZ (by omega))
   have hnl : ¬ (x<s):=by omega
   generalize x - s=d at *
   simp[mM,f161,aC,bg,bm,and_assoc,cX,dE,h44,h13,h14,h15,h1,h6,s32,b32,z32,a32,hi,hib,hda,hdb,hw2,hnl,hw4,hwi,il d,oh,nM,jV,cg,h7,h8]
 ·rw[jq (Nat.le_of_not_lt hib)] at hs
  simp only[Nat.add_zero] at hs
  rcases hs with ⟨hlt,rfl,rfl⟩| ⟨hge,rfl,rfl⟩
  ·have hw4:bE .u32 ((x2:Int) - (c:Int))=((x2 - c:Nat):Int):=zf .u32 x2 c (x2 - c) (by omega) (iZ (by omega))
   generalize x2 - c=d at *
   simp[mM,f161,aC,bg,bm,and_assoc,cX,dE,h44,h13,h14,h15,h1,h6,s32,b32,z32,a32,hi,hib,hda,hlt,hwx,hw4,hwi,il d,oh,nM,jV,cg,h7,h8]
  ·have hw4:bE .u32 ((x:Int) - (c:Int))=((x - c:Nat):Int):=zf .u32 x c (x - c) (by omega) (iZ (by omega))
   have hnl : ¬ (x<c):=by omega
   generalize x - c=d at *
   simp[mM,f161,aC,bg,bm,and_assoc,cX,dE,h44,h13,h14,h15,h1,h6,s32,b32,z32,a32,hi,hib,hda,hnl,hw4,hwi,il d,oh,nM,jV,cg,h7,h8]
theorem H8 {va vb vo x c c' y d P:Nat}(h:va+c*P=vo+vb)(hs:(x<c+y∧c'=1∧d=x+1000000000 - (c+y))∨(c+y≤x∧c'=0∧d=x - (c+y)))(hc:c+y≤x+1000000000) :
  va+x*P+c'*(P*1000000000)=vo+P*d+(vb+y*P):=by
 have e:x+c'*1000000000=d+c+y:=by omega
 have e2:(x+c'*1000000000)*P=(d+c+y)*P:=by rw[e]
 simp only[Nat.add_mul] at e2
 have e3:c'*1000000000*P=c'*(P*1000000000):=by grind
 have e4:d*P=P*d:=Nat.mul_comm _ _
 omega
theorem xH (L:Lst)(run:ar)(k:Nat)(a b:List Nat)(ha:Dok a)(hb:Dok b)(hl:a.length<1000000):∀ (n i:Nat) (fr:List PV) (hp:List Blk) (wr:List Nat) (out:List Nat) (c:Nat),i+n=a.length →
  fr.length=44→nth fr 13=aQ a→nth fr 14 = .sc (.int .i64 (a.length:Int))→nth fr 15 = .sc (.int .i64 (i:Int))→nth fr 1=aQ b→nth fr 6 = .sc (.int .u32 (c:Int))→dU 0 hp out (nth fr 5)→out.length=i →
  Dok out→c≤1→val (a.take i)+c*1000000000 ^ i=val out+val (b.take i) →
  ∃ (fr':List PV) (hp':List Blk) (wr':List Nat) (out':List Nat) (c':Nat),cu (af (CC L) run k mM) (n+1) ⟨fr,hp,wr⟩=some (.exit 0,⟨fr',hp',wr'⟩)∧fr'.length=44∧dU 0 hp' out' (nth fr' 5)∧out'.length=a.length
   ∧ Dok out'∧c'≤1∧val a+c'*1000000000 ^ a.length=val out'+val (b.take a.length)
 | 0,i,fr,hp,wr,out,c,hi,h44,h13,h14,h15,h1,h6,hO,ho,hd,hc,hv=>by
  have:i=a.length:=by omega
  subst this
  obtain⟨fr',g1,g2,g3⟩:=Ol L run k fr hp wr a.length h44 h14 h15
  exact⟨fr',hp,wr,out,c,bD g1,g2,by rw[g3];exact hO,ho,hd,hc,by rw[← hv,List.take_length]⟩
 | n+1,i,fr,hp,wr,out,c,hi,h44,h13,h14,h15,h1,h6,hO,ho,hd,hc,hv=>by
  have hx:=cF ha i
  have hy:=cF hb i
  obtain⟨c',d,hs,hc',hdd⟩:∃ c' d,((at0 a i<c+at0 b i∧c'=1∧d=at0 a i+1000000000 - (c+at0 b i))∨(c+at0 b i≤at0 a i∧c'=0∧d=at0 a i - (c+at0 b i)))∧c'≤1∧d<1000000000:=by
   by_cases h:at0 a i<c+at0 b i
   ·exact⟨1,_,.inl ⟨h,rfl,rfl⟩,by omega,by omega⟩
   ·exact⟨0,_,.inr ⟨by omega,rfl,rfl⟩,by omega,by omega⟩
  obtain⟨fr1,hp1,wr1,g1,g2,g3,g4,g5,g6,g7,g8⟩:=Ew L run k fr hp wr a b out i c c' d ha hb hc (by omega) hl h44 h13 h14 h15 h1 h6 hO ho hs
  obtain⟨fr',hp',wr',out',c2,q1,q2⟩:=xH L run k a b ha hb hl n (i+1) fr1 hp1 wr1 _ _ (by omega) g2 g3 g4 g5 g6 g7 g8 (by simp[ho]) (hd.append (Dok.nil.cons hdd)) hc'
   (by
    rw[cI,cI,dP,ho,Nat.pow_succ]
    exact H8 hv hs (by omega))
  exact⟨fr',hp',wr',out',c2,by rw[ct g1];exact q1,q2⟩
def Ib:Code:=seq1 (seq1 (ah 3 mL))
theorem Ev:ah 3 mL = .seq (.seq Ib (.block 0 (.loop mM))) (ah 4 mL):=rfl
theorem Ok (L:Lst)(run:ar)(k:Nat)(a b:List Nat)(hl:a.length<1000000)(hne:a≠[]) :
  ∃ fr hp wr,aX (CC L) run k 3 mL ⟨entry 44 [aQ a,aQ b],[],[]⟩=some ⟨fr,hp,wr⟩∧fr.length=44∧nth fr 0=aQ a∧nth fr 1=aQ b∧nth fr 6 = .sc (.int .u32 (0:Nat))∧dU 0 hp [] (nth fr 5):=by
 obtain⟨e1,e2,e3⟩:=cn 42 (aQ a) (aQ b)
 generalize entry 44 [aQ a,aQ b]=fr0 at *
 have hO:∀ n,dU 0 [⟨.live,rep n [dg 0]⟩] [] (.own 0 1 0 0 false):=fun n=>⟨Nat.zero_le _,.inr ⟨0,List.replicate n 0,Nat.le_refl _,by simp,rfl,by rw[sF];rfl⟩⟩
 have h1:a.length≤cS:=Nat.le_trans (Nat.le_of_lt hl) (by decide)
 have h2:(0 == a.length)=false:=by
  have:=List.length_pos_iff.2 hne
  simp;omega
 simp[mL,f161,aX,e1,e2,e3,bm,ke,and_assoc,cB,s32,b32,z32,cg,h1,h2,hO]
theorem abl(a:List Nat)(h44:fr.length=44)(h0:nth fr 0=aQ a) :
  ∃ fr',af (CC L) run k Ib ⟨fr,hp,wr⟩=some (.normal,⟨fr',hp,wr⟩)∧fr'.length=44∧nth fr' 13=aQ a∧nth fr' 14 = .sc (.int .i64 (a.length:Int))∧nth fr' 15 = .sc (.int .i64 (0:Nat))
   ∧ nth fr' 1=nth fr 1∧nth fr' 6=nth fr 6∧nth fr' 5=nth fr 5:=by
 simp[Ib,mL,ah,seq1,f161,cB,h44,h0]
theorem Ia(h44:fr.length=44) :
  ∃ st,af (CC L) run k (ah 4 mL) ⟨fr,hp,wr⟩=some (.ret,st)∧aU TT st.fr st.hp f161.results.toList=some [nth fr 5]∧st.hp=hp:=by
 simp[mL,ah,f161,h44]
def xI:List PV→Option (List PV)
 | [p,q]=>match iw p,iw q with
  | some a,some b=>bif Nat.ble (val b) (val a) && Nat.ble b.length a.length && !(a.length.beq 0) then some [aQ (di a.length (val a - val b))] else none
  | _,_=>none
 | _=>none
theorem H9:Ab.Spec base.P 161 xI:=Ab.Spec.bM (C:=CC []) (cP trivial) fun args rs h=>by
 unfold xI at h
 split at h
 ·split at h
  ·rename_i a b ea eb
   obtain⟨rfl,ha,hla⟩:=dI ea
   obtain⟨rfl,hb,hlb⟩:=dI eb
   cases hc:Nat.ble (val b) (val a) && Nat.ble b.length a.length && !(a.length.beq 0) with
   | false=>rw[hc] at h;cases h
   | true =>
    rw[hc] at h
    simp only[cond_true,OiE] at h
    subst h
    simp only[Bool.and_eq_true,Nat.ble_eq,Bool.not_eq_true'] at hc
    obtain⟨⟨hle,hlen⟩,hne⟩:=hc
    have hne':a≠[]:=by intro e;subst e;simp at hne
    obtain⟨fr1,hp1,wr1,h1,h2,h3,h4,h5,h6⟩:=Ok [] (runK (CC []) (a.length+1)) (a.length+1) a b hla hne'
    obtain⟨fr2,g1,g2,g3,g4,g5,g6,g7,g8⟩:=abl [] (runK (CC []) (a.length+1)) (a.length+1) fr1 hp1 wr1 a h2 h3
    obtain⟨fr3,hp3,wr3,out,c,q1,q2,q3,q4,q5,q6,q7⟩:=xH [] (runK (CC []) (a.length+1)) (a.length+1) a b ha hb hla a.length 0 fr2 hp1 wr1 [] 0 (by simp) g2 g3 g4 g5 (by rw[g6,h4]) (by rw[g7,h5]) (by rw[g8];exact h6) rfl Dok.nil (by omega) (by simp[val])
    obtain⟨st,e1,e2,e3⟩:=Ia [] (runK (CC []) (a.length+1)) (a.length+1) fr3 hp3 wr3 q2
    have hx:af (CC []) (runK (CC []) (a.length+1)) (a.length+1) mL ⟨entry 44 [aQ a,aQ b],[],[]⟩=some (.ret,st):=by
     rw[aO 3 h1,Ev,av ((av g1).trans (bN q1))]
     exact e1
    have hout:out=di a.length (val a - val b):=by
     refine q5.pZ q4 ?_
     rw[cL _ _ hlen] at q7
     have hb1:=fh q5
     rw[q4] at hb1
     have:c=0∨c=1:=by omega
     rcases this with rfl | rfl <;> omega
    obtain⟨rs2,ids,r1,r2⟩:=q3.HW
    rw[hout] at r2
    rw[← e3] at r1
    exact⟨a.length+2,_,_,_,rs2,ids,aP Jx rfl hx e2,r1,r2⟩
  ·cases h
 ·cases h
theorem bw {L:Lst}{g:Nat}{f:List PV→Option (List PV)}(hs:base.shared g=false)(ho:bu L g=fun a=>f (aJ a))(run:ar)(dr:Bool)(hp:List Blk)(args rs:List PV)
  (h1:bq (snap hp bn) args=some (args,[])) (h2:aJ args=args) (h3:f args=some rs):bX (CC L) run dr hp g args=some (jk rs,hp,⟨[],[],false,false⟩):=by
 have h4:(CC L).orc g args=some rs:=by
  show bu L g args=_
  rw[ho];show f (aJ args)=_;rw[h2,h3]
 by_cases h:rs.all eE=true
 ·exact kl hs h1 h4 h
 ·exact eJ hs h1 h4 (by simpa using h)
theorem m5(a b:List Nat):bq (snap hp bn) [aQ a,aQ b]=some ([aQ a,aQ b],[]):=rfl
theorem LA(n:Bool)(a:List Nat):bq (snap hp bn) [.sc (.bool n),aQ a]=some ([.sc (.bool n),aQ a],[]):=rfl
theorem m4(a:Int):bq (snap hp bn) [bt a]=some ([bt a],[]):=rfl
theorem gk(a b:Int):bq (snap hp bn) [bt a,bt b]=some ([bt a,bt b],[]):=rfl
theorem kK (a b:List Nat):aJ [aQ a,aQ b]=[aQ a,aQ b]:=by simp only[aJ,fP]
theorem Fu (n:Bool)(a:List Nat):aJ [.sc (.bool n),aQ a]=[.sc (.bool n),aQ a]:=by simp only[aJ,fP,canon]
theorem kb (a:Int):aJ [bt a]=[bt a]:=by simp only[aJ,yp]
theorem fq (a b:Int):aJ [bt a,bt b]=[bt a,bt b]:=by simp only[aJ,yp]
def Sm (z:Int):Prop:=(aK z.natAbs).length<400000
theorem Sm.lt {z:Int}(h:Sm z):(aK z.natAbs).length<1000000:=Nat.lt_trans h (by decide)
theorem eB {p:PV}{z:Int}(h:fU p=some z):p=bt z∧Sm z:=IL h
theorem cM {z:Int}(h:Sm z):fU (bt z)=some z:=O0 z h
theorem Mt(z:Int) :
  ∃ st,af (CC L) run k (f101.body.getD .skip) ⟨entry 11 [bt z],[],[]⟩=some (.ret,st)∧aU TT st.fr st.hp f101.results.toList=some [Ab.bz z.sign]:=by
 obtain⟨e1,e2⟩:=cW 10 (bt z)
 generalize entry 11 [bt z]=fr0 at *
 cases z with
 | ofNat n =>
  cases n with
  | zero =>
   have e3:bt (Int.ofNat 0) = .agg [.sc (.bool false),aQ []]:=rfl
   rw[e3] at e2
   simp[f101,e1,e2,cB,Ab.bz]
  | succ n =>
   have h0:=da.2 (Nat.succ_ne_zero n)
   have e3:bt (Int.ofNat (n+1)) = .agg [.sc (.bool false),aQ (aK (n+1))]:=rfl
   rw[e3] at e2
   have e4:(Int.ofNat (n+1)).sign=1:=rfl
   rw[e4]
   generalize aK (n+1)=l at *
   have h1:((l.length:Int) == 0)=false:=by simp;intro h;subst h;simp at h0
   have h2:l≠[]:=by intro h;subst h;simp at h0
   simp[f101,e1,e2,cB,Ab.bz,h1]
 | negSucc n =>
   have h0:=da.2 (Nat.succ_ne_zero n)
   have e3:bt (Int.negSucc n) = .agg [.sc (.bool true),aQ (aK (n+1))]:=rfl
   rw[e3] at e2
   have e4:(Int.negSucc n).sign = -1:=rfl
   rw[e4]
   generalize aK (n+1)=l at *
   have h1:((l.length:Int) == 0)=false:=by simp;intro h;subst h;simp at h0
   have h2:l≠[]:=by intro h;subst h;simp at h0
   simp[f101,e1,e2,cB,Ab.bz,h1]
def jE:List PV→Option (List PV)
 | [p]=>match fU p with
  | some z=>some [Ab.bz z.sign]
  | none=>none
 | _=>none
theorem ki:Ab.Spec base.P 101 jE:=Ab.Spec.bM (C:=CC []) (cP trivial) fun args rs h=>by
 unfold jE at h
 split at h
 ·split at h
  ·rename_i z hz
   obtain⟨rfl,-⟩:=eB hz
   simp only[OiE] at h
   subst h
   obtain⟨st,e1,e2⟩:=Mt [] (runK (CC []) 1) 1 z
   exact⟨2,_,_,_,_,_,aP PJ rfl e1 e2,eY _ _,Wk.refl rfl,trivial⟩
  ·cases h
 ·cases h
def L1:Lst:=[(167,jB),(152,fJ),(160,DU),(161,xI),(146,tK)]
theorem LJ:dw base.P L1:=⟨jf,jD,NZ,H9,zw,trivial⟩
theorem Oe:bu L1 152=fun a=>fJ (aJ a):=rfl
theorem aaE:bu L1 160=fun a=>DU (aJ a):=rfl
theorem TY:bu L1 161=fun a=>xI (aJ a):=rfl
theorem aaD:bu L1 146=fun a=>tK (aJ a):=rfl
theorem ll (run:ar)(dr:Bool)(hp:List Blk)(n:Bool)(l:List Nat)(hd:Dok l)(hl:l.length<1000000) :
  bX (CC L1) run dr hp 152 [.sc (.bool n),aQ l]=some (bt (sgn n (val l)),hp,⟨[],[],false,false⟩) :=
 bw oO Oe run dr hp _ [bt (sgn n (val l))] (LA hp n l) (Fu n l) (by simp only[fJ,dc hd hl])
theorem Pd (run:ar)(dr:Bool)(hp:List Blk)(a b:List Nat)(ha:Dok a)(hla:a.length<1000000)(hb:Dok b)(hlb:b.length<1000000) :
  bX (CC L1) run dr hp 160 [aQ a,aQ b]=some (aQ (di (Nat.max a.length b.length+1) (val a+val b)),hp,⟨[],[],false,false⟩) :=
 bw YT aaE run dr hp _ [aQ (di (Nat.max a.length b.length+1) (val a+val b))] (m5 hp a b) (kK a b) (by simp only[DU,dc ha hla,dc hb hlb])
theorem yr (run:ar)(dr:Bool)(hp:List Blk)(a b:List Nat)(ha:Dok a)(hla:a.length<1000000)(hb:Dok b)(hlb:b.length<1000000)(h:val b≤val a)(h':b.length≤a.length)(h0:a.length≠0) :
  bX (CC L1) run dr hp 161 [aQ a,aQ b]=some (aQ (di a.length (val a - val b)),hp,⟨[],[],false,false⟩) :=
 bw Ri TY run dr hp _ [aQ (di a.length (val a - val b))] (m5 hp a b) (kK a b) (by
  have h1:Nat.ble (val b) (val a)=true:=by rw[Nat.ble_eq];exact h
  have h2:Nat.ble b.length a.length=true:=by rw[Nat.ble_eq];exact h'
  have h3:a.length.beq 0=false:=by
   cases e:a.length with
   | zero=>exact absurd e h0
   | succ n=>rfl
  simp[xI,dc ha hla,dc hb hlb,h1,h2,h3])
theorem pf (run:ar)(dr:Bool)(hp:List Blk)(a b:List Nat)(ha:Dok a)(hla:a.length<1000000)(hb:Dok b)(hlb:b.length<1000000) :
  bX (CC L1) run dr hp 146 [aQ a,aQ b]=some (Ab.bz (pw a b),hp,⟨[],[],false,false⟩) :=
 bw J0 aaD run dr hp _ [Ab.bz (pw a b)] (m5 hp a b) (kK a b) (by simp only[tK,dc ha hla,dc hb hlb])
theorem Us(n:Bool)(l:List Nat)(hd:Dok l)(hl:l.length<1000000) :
  ∃ st,af (CC L1) run k (f149.body.getD .skip) ⟨entry 9 [wh n l],[],[]⟩=some (.ret,st)∧aU TT st.fr st.hp f149.results.toList=some [bt (sgn (!n) (val l))]:=by
 have hc:=fun hp dr=>ll run dr hp (!n) l hd hl
 obtain⟨e1,e2⟩:=cW 8 (wh n l)
 generalize entry 9 [wh n l]=fr0 at *
 have e3:wh n l = .agg [.sc (.bool n),aQ l]:=rfl
 have e4:bt (sgn (!n) (val l)) = .agg [.sc (.bool (bA (sgn (!n) (val l)))),aQ (aK (sgn (!n) (val l)).natAbs)]:=rfl
 rw[e3] at e2
 rw[e4] at hc ⊢
 generalize aK (sgn (!n) (val l)).natAbs=m at *
 generalize bA (sgn (!n) (val l))=nn at *
 simp[f149,e1,e2,unP,ch,bG,hc,sW,aW,zW,bZ,cq,bF]
theorem aea (z:Int):sgn (bA z) z.natAbs=z:=by
 cases z with
 | ofNat n=>rfl
 | negSucc n=>rfl
theorem Y6 (z:Int):sgn (!bA z) z.natAbs = -z:=by
 cases z with
 | ofNat n=>show Int.negOfNat n = -(Int.ofNat n);cases n <;> rfl
 | negSucc n=>rfl
def s9:List PV→Option (List PV)
 | [p]=>match fU p with
  | some z=>some [bt (-z)]
  | none=>none
 | _=>none
theorem nY:Ab.Spec base.P 149 s9:=Ab.Spec.bM (C:=CC L1) (cP LJ) fun args rs h=>by
 unfold s9 at h
 split at h
 ·split at h
  ·rename_i z hz
   obtain⟨rfl,hs⟩:=eB hz
   simp only[OiE] at h
   subst h
   obtain⟨st,e1,e2⟩:=Us (runK (CC L1) 1) 1 (bA z) (aK z.natAbs) (cb _) hs.lt
   rw[cj,Y6] at e2
   exact⟨2,_,_,_,_,_,aP XW rfl e1 e2,jH _ _,Wk.refl rfl,trivial⟩
  ·cases h
 ·cases h
def I8:Code:=f139.body.getD .skip
theorem whW (z:Int):bt z = .agg [.sc (.bool (bA z)),aQ (aK z.natAbs)]:=rfl
set_option maxHeartbeats 1000000 in
theorem Py(n:Bool)(a b:List Nat)(ha:Dok a)(hla:a.length<400000)(hb:Dok b)(hlb:b.length<400000) :
  ∃ st,af (CC L1) run k I8 ⟨entry 42 [wh n a,wh n b],[],[]⟩=some (.ret,st)∧aU TT st.fr st.hp f139.results.toList=some [bt (sgn n (val a+val b))]:=by
 have hm:Nat.max a.length b.length≤400000:=Nat.max_le.2 ⟨by omega,by omega⟩
 have hv:val (di (Nat.max a.length b.length+1) (val a+val b))=val a+val b:=fA _ _ (by
  have h1:=fh ha
  have h2:=fh hb
  have h3:=Nat.pow_le_pow_right (n:=1000000000) (by omega) (Nat.le_max_left a.length b.length)
  have h4:=Nat.pow_le_pow_right (n:=1000000000) (by omega) (Nat.le_max_right a.length b.length)
  have h5:a.length.max b.length=max a.length b.length:=rfl
  rw[h5,Nat.pow_succ];omega)
 have hc:=fun hp dr=>Pd run dr hp a b ha (by omega) hb (by omega)
 have hc2:=fun hp dr=>ll run dr hp n (di (Nat.max a.length b.length+1) (val a+val b)) (gU _ _) (by rw[dC];omega)
 rw[hv] at hc2
 generalize di (Nat.max a.length b.length+1) (val a+val b)=m at *
 obtain⟨e1,e2,e3⟩:=cn 40 (wh n a) (wh n b)
 generalize entry 42 [wh n a,wh n b]=fr0 at *
 have e4:∀ l,wh n l = .agg [.sc (.bool n),aQ l]:=fun _=>rfl
 rw[e4] at e2 e3
 simp only[whW] at hc2 ⊢
 generalize aK (sgn n (val a+val b)).natAbs=r at *
 generalize bA (sgn n (val a+val b))=nn at *
 simp[I8,f139,e1,e2,e3,ch,bG,hc,hc2,sW,aW,zW,bZ,cq,bF,number,FP.free,cH,FP.apart]
theorem ml (x y:Nat):pw (aK x) (aK y)=ee x y:=by
 unfold pw
 by_cases h1:(aK x).length<(aK y).length
 ·rw[if_pos h1,ee,if_pos]
  exact Nat.lt_of_not_le fun h=>absurd (cK h) (by omega)
 ·rw[if_neg h1]
  by_cases h2:(aK y).length<(aK x).length
  ·have h3:y<x:=Nat.lt_of_not_le fun h=>absurd (cK h) (by omega)
   rw[if_pos h2,ee,if_neg (by omega),if_neg (by omega)]
  ·rw[if_neg h2,cj,cj]
set_option maxHeartbeats 1000000 in
theorem Px(n:Bool)(x y:Nat)(hla:(aK x).length<400000)(hlb:(aK y).length<400000)(hxy:x<y) :
  ∃ st,af (CC L1) run k I8 ⟨entry 42 [wh n (aK x),wh (!n) (aK y)],[],[]⟩=some (.ret,st)∧aU TT st.fr st.hp f139.results.toList=some [bt (sgn (!n) (y - x))]:=by
 have hv:val (di (aK y).length (y - x))=y - x:=fA _ _ (Nat.lt_of_le_of_lt (Nat.sub_le _ _) (fL y))
 have hy0:(aK y).length≠0:=by
  have:=(da (n:=y)).2 (by omega)
  omega
 have hc0:=fun hp dr=>pf run dr hp (aK x) (aK y) (cb _) (by omega) (cb _) (by omega)
 rw[ml,ee,if_pos hxy] at hc0
 have hc:=fun hp dr=>yr run dr hp (aK y) (aK x) (cb _) (by omega) (cb _) (by omega) (by rw[cj,cj];omega) (cK (Nat.le_of_lt hxy)) hy0
 rw[cj,cj] at hc
 have hc2:=fun hp dr=>ll run dr hp (!n) (di (aK y).length (y - x)) (gU _ _) (by rw[dC];omega)
 rw[hv] at hc2
 generalize di (aK y).length (y - x)=m at *
 obtain⟨e1,e2,e3⟩:=cn 40 (wh n (aK x)) (wh (!n) (aK y))
 generalize entry 42 [wh n (aK x),wh (!n) (aK y)]=fr0 at *
 have e4:∀ n l,wh n l = .agg [.sc (.bool n),aQ l]:=fun _ _=>rfl
 rw[e4] at e2 e3
 simp only[whW] at hc2 ⊢
 generalize aK (sgn (!n) (y - x)).natAbs=r at *
 generalize bA (sgn (!n) (y - x))=nn at *
 have hnn:(n == !n)=false:=by cases n <;> rfl
 simp only[Ab.bz] at hc0
 simp[I8,f139,e1,e2,e3,ch,bG,hc,hc0,hc2,hnn,sW,aW,zW,bZ,cq,bF,number,FP.free,cH,FP.apart]
set_option maxHeartbeats 1000000 in
theorem Pw(n:Bool)(x y:Nat)(hla:(aK x).length<400000)(hlb:(aK y).length<400000)(hxy:y≤x)(hx:x≠0) :
  ∃ st,af (CC L1) run k I8 ⟨entry 42 [wh n (aK x),wh (!n) (aK y)],[],[]⟩=some (.ret,st)∧aU TT st.fr st.hp f139.results.toList=some [bt (sgn n (x - y))]:=by
 have hv:val (di (aK x).length (x - y))=x - y:=fA _ _ (Nat.lt_of_le_of_lt (Nat.sub_le _ _) (fL x))
 have hx0:(aK x).length≠0:=by
  have:=(da (n:=x)).2 (by omega)
  omega
 have hc0:=fun hp dr=>pf run dr hp (aK x) (aK y) (cb _) (by omega) (cb _) (by omega)
 have hcz:decide (ee x y<0)=false:=by
  apply decide_eq_false
  unfold ee
  rw[if_neg (by omega)]
  by_cases h:x=y
  ·rw[if_pos h];omega
  ·rw[if_neg h];omega
 have hcz' : ¬ (ee x y<0):=by simpa using hcz
 rw[ml] at hc0
 have hc:=fun hp dr=>yr run dr hp (aK x) (aK y) (cb _) (by omega) (cb _) (by omega) (by rw[cj,cj];omega) (cK hxy) hx0
 rw[cj,cj] at hc
 have hc2:=fun hp dr=>ll run dr hp n (di (aK x).length (x - y)) (gU _ _) (by rw[dC];omega)
 rw[hv] at hc2
 generalize di (aK x).length (x - y)=m at *
 obtain⟨e1,e2,e3⟩:=cn 40 (wh n (aK x)) (wh (!n) (aK y))
 generalize entry 42 [wh n (aK x),wh (!n) (aK y)]=fr0 at *
 have e4:∀ n l,wh n l = .agg [.sc (.bool n),aQ l]:=fun _ _=>rfl
 rw[e4] at e2 e3
 simp only[whW] at hc2 ⊢
 generalize aK (sgn n (x - y)).natAbs=r at *
 generalize bA (sgn n (x - y))=nn at *
 have hnn:(n == !n)=false:=by cases n <;> rfl
 simp only[Ab.bz] at hc0
 generalize ee x y=cc at *
 simp[I8,f139,e1,e2,e3,ch,bG,hc,hc0,hc2,hnn,hcz',sW,aW,zW,bZ,cq,bF,number,FP.free,cH,FP.apart]
theorem sw (n:Bool)(v:Nat):sgn n v=if n=true then -(v:Int) else (v:Int):=by
 cases n with
 | false=>rfl
 | true =>
  show Int.negOfNat v=_
  cases v <;> rfl
theorem Y8 {x y:Int}(h:bA x=bA y):sgn (bA x) (x.natAbs+y.natAbs)=x+y:=by
 rw[sw]
 rw[cR,cR] at h
 rw[cR]
 by_cases hx:x<0 <;> by_cases hy:y<0 <;> simp[hx,hy] at h ⊢ <;> omega
theorem RG {x y:Int}(h : ¬ bA x=bA y)(hl:x.natAbs<y.natAbs):sgn (!bA x) (y.natAbs - x.natAbs)=x+y:=by
 rw[sw]
 rw[cR,cR] at h
 rw[cR]
 by_cases hx:x<0 <;> by_cases hy:y<0 <;> simp[hx,hy] at h ⊢ <;> omega
theorem RE {x y:Int}(h : ¬ bA x=bA y)(hl:y.natAbs≤x.natAbs):sgn (bA x) (x.natAbs - y.natAbs)=x+y:=by
 rw[sw]
 rw[cR,cR] at h
 rw[cR]
 by_cases hx:x<0 <;> by_cases hy:y<0 <;> simp[hx,hy] at h ⊢ <;> omega
theorem Xx(x y:Int)(hx:Sm x)(hy:Sm y) :
  ∃ st,af (CC L1) run k I8 ⟨entry 42 [bt x,bt y],[],[]⟩=some (.ret,st)∧aU TT st.fr st.hp f139.results.toList=some [bt (x+y)]:=by
 by_cases hn:bA x=bA y
 ·have:=Py run k (bA x) (aK x.natAbs) (aK y.natAbs) (cb _) hx (cb _) hy
  rw[cj,cj] at this
  rw[Y8 hn] at this
  simp only[bt]
  rw[← hn];exact this
 ·have hn':bA y = !bA x:=by
   revert hn;cases bA x <;> cases bA y <;> simp
  by_cases hxy:x.natAbs<y.natAbs
  ·have:=Px run k (bA x) x.natAbs y.natAbs hx hy hxy
   rw[RG hn hxy] at this
   simp only[bt]
   rw[hn'];exact this
  ·have hx0:x.natAbs≠0:=by
    intro h0
    have:y.natAbs=0:=by omega
    have hx:x=0:=by omega
    have hy:y=0:=by omega
    subst hx;subst hy
    exact hn rfl
   have:=Pw run k (bA x) x.natAbs y.natAbs hx hy (by omega) hx0
   rw[RE hn (by omega)] at this
   simp only[bt]
   rw[hn'];exact this
def tw:List PV→Option (List PV)
 | [p,q]=>match fU p,fU q with
  | some x,some y=>some [bt (x+y)]
  | _,_=>none
 | _=>none
theorem oC:Ab.Spec base.P 139 tw:=Ab.Spec.bM (C:=CC L1) (cP LJ) fun args rs h=>by
 unfold tw at h
 split at h
 ·split at h
  ·rename_i x y ex ey
   obtain⟨rfl,hx⟩:=eB ex
   obtain⟨rfl,hy⟩:=eB ey
   simp only[OiE] at h
   subst h
   obtain⟨st,e1,e2⟩:=Xx (runK (CC L1) 1) 1 x y hx hy
   exact⟨2,_,_,_,_,_,aP X2 rfl e1 e2,jH _ _,Wk.refl rfl,trivial⟩
  ·cases h
 ·cases h
def L2:Lst:=[(149,s9),(139,tw)]
theorem ai4:dw base.P L2:=⟨nY,oC,trivial⟩
theorem aeW:bu L2 149=fun a=>s9 (aJ a):=rfl
theorem aeX:bu L2 139=fun a=>tw (aJ a):=rfl
theorem Sm.neg {z:Int}(h:Sm z):Sm (-z):=by unfold Sm at *;rwa [Int.natAbs_neg]
theorem W1 (run:ar)(dr:Bool)(hp:List Blk)(x:Int)(hx:Sm x):bX (CC L2) run dr hp 149 [bt x]=some (bt (-x),hp,⟨[],[],false,false⟩) :=
 bw GP aeW run dr hp _ [bt (-x)] (m4 hp x) (kb x) (by simp only[s9,cM hx])
theorem W2 (run:ar)(dr:Bool)(hp:List Blk)(x y:Int)(hx:Sm x)(hy:Sm y):bX (CC L2) run dr hp 139 [bt x,bt y]=some (bt (x+y),hp,⟨[],[],false,false⟩) :=
 bw GS aeX run dr hp _ [bt (x+y)] (gk hp x y) (fq x y) (by simp only[tw,cM hx,cM hy])
def ahF:Code:=f168.body.getD .skip
theorem QM(x y:Int)(hx:Sm x)(hy:Sm y) :
  ∃ st,af (CC L2) run k ahF ⟨entry 9 [bt x,bt y],[],[]⟩=some (.ret,st)∧aU TT st.fr st.hp f168.results.toList=some [bt (x - y)]:=by
 have hc1:=fun hp dr=>W1 run dr hp y hy
 have hc2:=fun hp dr=>W2 run dr hp x (-y) hx hy.neg
 rw[← Int.sub_eq_add_neg] at hc2
 obtain⟨e1,e2,e3⟩:=cn 7 (bt x) (bt y)
 generalize entry 9 [bt x,bt y]=fr0 at *
 simp only[whW] at hc1 hc2 e2 e3 ⊢
 generalize aK (-y).natAbs=ry at *
 generalize bA (-y)=ny at *
 generalize aK (x - y).natAbs=rz at *
 generalize bA (x - y)=nz at *
 generalize aK x.natAbs=rx at *
 generalize bA x=nx at *
 generalize aK y.natAbs=rw at *
 generalize bA y=nw at *
 simp[ahF,f168,e1,e2,e3,ch,bG,hc1,hc2,sW,aW,zW,bZ,cq,bF,number,FP.free,cH,FP.apart]
def Gj:List PV→Option (List PV)
 | [p,q]=>match fU p,fU q with
  | some x,some y=>some [bt (x - y)]
  | _,_=>none
 | _=>none
theorem wc:Ab.Spec base.P 168 Gj:=Ab.Spec.bM (C:=CC L2) (cP ai4) fun args rs h=>by
 unfold Gj at h
 split at h
 ·split at h
  ·rename_i x y ex ey
   obtain⟨rfl,hx⟩:=eB ex
   obtain⟨rfl,hy⟩:=eB ey
   simp only[OiE] at h
   subst h
   obtain⟨st,e1,e2⟩:=QM (runK (CC L2) 1) 1 x y hx hy
   exact⟨2,_,_,_,_,_,aP XV rfl e1 e2,jH _ _,Wk.refl rfl,trivial⟩
  ·cases h
 ·cases h
def IP:Code:=f96.body.getD .skip
theorem O6(n:Bool)(a b:List Nat) :
  ∃ st,af (CC L) run k IP ⟨entry 26 [wh n a,wh (!n) b],[],[]⟩=some (.ret,st)∧aU TT st.fr st.hp f96.results.toList=some [Ab.bz (bif n then -1 else 1)]:=by
 obtain⟨e1,e2,e3⟩:=cn 24 (wh n a) (wh (!n) b)
 generalize entry 26 [wh n a,wh (!n) b]=fr0 at *
 have e4:∀ n l,wh n l = .agg [.sc (.bool n),aQ l]:=fun _ _=>rfl
 rw[e4] at e2 e3
 cases n
 ·simp[IP,f96,e1,e2,e3,Ab.bz]
 ·simp[IP,f96,e1,e2,e3,Ab.bz]
theorem O5(n:Bool)(x y:Nat)(hla:(aK x).length<400000)(hlb:(aK y).length<400000) :
  ∃ st,af (CC L1) run k IP ⟨entry 26 [wh n (aK x),wh n (aK y)],[],[]⟩=some (.ret,st)∧aU TT st.fr st.hp f96.results.toList=some [Ab.bz (bif n then ee y x else ee x y)]:=by
 have hc0:=fun hp dr=>pf run dr hp (aK x) (aK y) (cb _) (by omega) (cb _) (by omega)
 have hc1:=fun hp dr=>pf run dr hp (aK y) (aK x) (cb _) (by omega) (cb _) (by omega)
 rw[ml] at hc0 hc1
 obtain⟨e1,e2,e3⟩:=cn 24 (wh n (aK x)) (wh n (aK y))
 generalize entry 26 [wh n (aK x),wh n (aK y)]=fr0 at *
 have e4:∀ n l,wh n l = .agg [.sc (.bool n),aQ l]:=fun _ _=>rfl
 rw[e4] at e2 e3
 simp only[Ab.bz] at hc0 hc1
 generalize ee x y=cc at *
 generalize ee y x=dd at *
 cases n
 ·simp[IP,f96,e1,e2,e3,hc0,Ab.bz]
 ·simp[IP,f96,e1,e2,e3,hc1,Ab.bz]
def fO (x y:Int):Int:=if x<y then -1 else if x=y then 0 else 1
theorem WH(x y:Int)(hx:Sm x)(hy:Sm y) :
  ∃ st,af (CC L1) run k IP ⟨entry 26 [bt x,bt y],[],[]⟩=some (.ret,st)∧aU TT st.fr st.hp f96.results.toList=some [Ab.bz (fO x y)]:=by
 by_cases hn:bA x=bA y
 ·have:=O5 run k (bA x) x.natAbs y.natAbs hx hy
  have e:(bif bA x then ee y.natAbs x.natAbs else ee x.natAbs y.natAbs)=fO x y:=by
   rw[cR,cR] at hn
   rw[cR]
   unfold fO ee
   by_cases hx:x<0 <;> by_cases hy:y<0 <;> simp[hx,hy] at hn ⊢
   ·by_cases h1:x<y
    ·rw[if_pos (by omega),if_pos h1]
    ·rw[if_neg (by omega),if_neg h1]
     by_cases h2:x=y
     ·rw[if_pos (by omega),if_pos h2]
     ·rw[if_neg (by omega),if_neg h2]
   ·by_cases h1:x<y
    ·rw[if_pos (by omega),if_pos h1]
    ·rw[if_neg (by omega),if_neg h1]
     by_cases h2:x=y
     ·rw[if_pos (by omega),if_pos h2]
     ·rw[if_neg (by omega),if_neg h2]
  rw[e] at this
  simp only[bt]
  rw[← hn];exact this
 ·have hn':bA y = !bA x:=by
   revert hn;cases bA x <;> cases bA y <;> simp
  have:=O6 L1 run k (bA x) (aK x.natAbs) (aK y.natAbs)
  have e:(bif bA x then (-1:Int) else 1)=fO x y:=by
   rw[cR,cR] at hn
   rw[cR]
   unfold fO
   by_cases hx:x<0 <;> by_cases hy:y<0 <;> simp[hx,hy] at hn ⊢
   ·intro h;omega
   ·rw[if_neg (by omega),if_neg (by omega)]
  rw[e] at this
  simp only[bt]
  rw[hn'];exact this
def rP:List PV→Option (List PV)
 | [p,q]=>match fU p,fU q with
  | some x,some y=>some [Ab.bz (fO x y)]
  | _,_=>none
 | _=>none
theorem oy:Ab.Spec base.P 96 rP:=Ab.Spec.bM (C:=CC L1) (cP LJ) fun args rs h=>by
 unfold rP at h
 split at h
 ·split at h
  ·rename_i x y ex ey
   obtain⟨rfl,hx⟩:=eB ex
   obtain⟨rfl,hy⟩:=eB ey
   simp only[OiE] at h
   subst h
   obtain⟨st,e1,e2⟩:=WH (runK (CC L1) 1) 1 x y hx hy
   exact⟨2,_,_,_,_,_,aP X1 rfl e1 e2,eY _ _,Wk.refl rfl,trivial⟩
  ·cases h
 ·cases h
end Go.Proofs.YtjdmodeenbdfpaaGreat
end
