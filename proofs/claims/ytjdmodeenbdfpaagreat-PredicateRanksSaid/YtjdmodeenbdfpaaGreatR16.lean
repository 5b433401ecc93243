/- Contracts of num's integers, part 16 of the proof; each lemma states its own conditions. -/
import Derived.Test.YtjdmodeenbdfpaaGreatR15
set_option linter.unusedSimpArgs false
set_option linter.unusedVariables false
namespace Go.Proofs.YtjdmodeenbdfpaaGreat
open Go Go.Ab
noncomputable def lY:Code:=((Tryz.f161.body).bind az).getD .skip
noncomputable def lX:Code:=Tryz.f161.body.getD .skip
theorem Mk (L:Lst)(run:ar)(k:Nat)(fr:List PV)(hp:List Blk)(wr:List Nat)(n:Nat)(h44:fr.length=44)
  (h14:nth fr 14 = .sc (.int .i64 (n:Int))) (h15:nth fr 15 = .sc (.int .i64 (n:Int))) :
  ∃ fr',af (CC L) run k lY ⟨fr,hp,wr⟩=some (.exit 0,⟨fr',hp,wr⟩)∧fr'.length=44∧nth fr' 5=nth fr 5:=by
 simp[lY,Tryz.f161,az,af,aJ,ao,aq,aH,ag,ai,aj,an,aF,aC,FP.none,bd,au,bj,aa,ae,ab,h44,h14,h15]
set_option maxHeartbeats 2000000 in
theorem CP (L:Lst)(run:ar)(k:Nat)(fr:List PV)(hp:List Blk)(wr:List Nat)(a b out:List Nat)(i c c' d:Nat)(ha:Dok a)(hb:Dok b)(hc:c≤1)(hi:i<a.length)(hl:a.length<1000000)
  (h44:fr.length=44) (h13:nth fr 13=aM a) (h14:nth fr 14 = .sc (.int .i64 (a.length:Int))) (h15:nth fr 15 = .sc (.int .i64 (i:Int))) (h1:nth fr 1=aM b)
  (h6:nth fr 6 = .sc (.int .u32 (c:Int))) (hO:dI 0 hp out (nth fr 5)) (ho:out.length=i) (hs:(at0 a i<c+at0 b i∧c'=1∧d=at0 a i+1000000000 - (c+at0 b i))∨(c+at0 b i≤at0 a i∧c'=0∧d=at0 a i - (c+at0 b i))) :
  ∃ fr' hp' wr',af (CC L) run k lY ⟨fr,hp,wr⟩=some (.normal,⟨fr',hp',wr'⟩)∧fr'.length=44∧nth fr' 13=aM a∧nth fr' 14 = .sc (.int .i64 (a.length:Int))
   ∧ nth fr' 15 = .sc (.int .i64 ((i+1:Nat):Int))∧nth fr' 1=aM b∧nth fr' 6 = .sc (.int .u32 (c':Int))∧dI 0 hp' (out++[d]) (nth fr' 5):=by
 have hda:=eJ a i hi
 have hax:=ha.get hi
 rw[de hi] at hs
 generalize a[i]=x at *
 have e1:aM a = .imm a.length false (a.map dg):=rfl
 have e2:aM b = .imm b.length false (b.map dg):=rfl
 have hdx:dg x = .sc (.int .u32 (x:Int)):=rfl
 rw[e1] at h13 ⊢;rw[e2] at h1 ⊢;rw[hdx] at hda
 have hwi:=bE i (by omega)
 obtain⟨p',hp',fp,h7,h8,h9⟩:=hO.app d (ho ▸ Nat.lt_trans hi (Nat.lt_trans hl (by decide)))
 have hwx:bA .u32 ((x:Int)+1000000000)=((x+1000000000:Nat):Int):=dy .u32 (x+1000000000) (iB (by omega))
 have hb9:=cw hb i
 obtain⟨x2,hx2⟩:∃ x2,x2=x+1000000000:=⟨_,rfl⟩
 rw[← hx2] at hwx hs
 by_cases hib:i<b.length
 ·have hdb:=eJ b i hib
  rw[de hib] at hs hb9
  generalize b[i]=y at *
  have hdy:dg y = .sc (.int .u32 (y:Int)):=rfl
  rw[hdy] at hdb
  obtain⟨s,hs1⟩:∃ s,s=c+y:=⟨_,rfl⟩
  have hw2:bA .u32 ((c:Int)+(y:Int))=(s:Int):=dp .u32 c y s hs1 (iB (by omega))
  rw[← hs1] at hs
  rcases hs with ⟨hlt,rfl,rfl⟩| ⟨hge,rfl,rfl⟩
  ·have hw4:bA .u32 ((x2:Int) - (s:Int))=((x2 - s:Nat):Int):=xG .u32 x2 s (x2 - s) (by omega) (iB (by omega))
   generalize x2 - s=d at *
   simp[lY,Tryz.f161,az,af,aJ,ao,aq,aH,ag,ai,aj,an,aF,aC,FP.none,bd,au,bj,aw,bM,bc,bm,partOf,aa,ae,ab,bh,and_assoc,cS,bg,du,h44,h13,h14,h15,h1,h6,uD,s32,b32,z32,a32,hi,hib,hda,hdb,aU,hw2,hlt,hwx,hw4,hwi,gN d,nf,mP,jt,cn,h7,h8]
  ·have hw4:bA .u32 ((x:Int) - (s:Int))=((x - s:Nat):Int):=xG .u32 x s (x - s) (by omega) (iB (by omega))
   have hnl : ¬ (x<s):=by omega
   generalize x - s=d at *
   simp[lY,Tryz.f161,az,af,aJ,ao,aq,aH,ag,ai,aj,an,aF,aC,FP.none,bd,au,bj,aw,bM,bc,bm,partOf,aa,ae,ab,bh,and_assoc,cS,bg,du,h44,h13,h14,h15,h1,h6,uD,s32,b32,z32,a32,hi,hib,hda,hdb,aU,hw2,hnl,hw4,hwi,gN d,nf,mP,jt,cn,h7,h8]
 ·rw[iV (Nat.le_of_not_lt hib)] at hs
  simp only[Nat.add_zero] at hs
  rcases hs with ⟨hlt,rfl,rfl⟩| ⟨hge,rfl,rfl⟩
  ·have hw4:bA .u32 ((x2:Int) - (c:Int))=((x2 - c:Nat):Int):=xG .u32 x2 c (x2 - c) (by omega) (iB (by omega))
   generalize x2 - c=d at *
   simp[lY,Tryz.f161,az,af,aJ,ao,aq,aH,ag,ai,aj,an,aF,aC,FP.none,bd,au,bj,aw,bM,bc,bm,partOf,aa,ae,ab,bh,and_assoc,cS,bg,du,h44,h13,h14,h15,h1,h6,uD,s32,b32,z32,a32,hi,hib,hda,aU,hlt,hwx,hw4,hwi,gN d,nf,mP,jt,cn,h7,h8]
  ·have hw4:bA .u32 ((x:Int) - (c:Int))=((x - c:Nat):Int):=xG .u32 x c (x - c) (by omega) (iB (by omega))
   have hnl : ¬ (x<c):=by omega
   generalize x - c=d at *
   simp[lY,Tryz.f161,az,af,aJ,ao,aq,aH,ag,ai,aj,an,aF,aC,FP.none,bd,au,bj,aw,bM,bc,bm,partOf,aa,ae,ab,bh,and_assoc,cS,bg,du,h44,h13,h14,h15,h1,h6,uD,s32,b32,z32,a32,hi,hib,hda,aU,hnl,hw4,hwi,gN d,nf,mP,jt,cn,h7,h8]
theorem Gt {va vb vo x c c' y d P:Nat}(h:va+c*P=vo+vb)(hs:(x<c+y∧c'=1∧d=x+1000000000 - (c+y))∨(c+y≤x∧c'=0∧d=x - (c+y)))(hc:c+y≤x+1000000000) :
  va+x*P+c'*(P*1000000000)=vo+P*d+(vb+y*P):=by
 have e:x+c'*1000000000=d+c+y:=by omega
 have e2:(x+c'*1000000000)*P=(d+c+y)*P:=by rw[e]
 simp only[Nat.add_mul] at e2
 have e3:c'*1000000000*P=c'*(P*1000000000):=by grind
 have e4:d*P=P*d:=Nat.mul_comm _ _
 omega
theorem vT (L:Lst)(run:ar)(k:Nat)(a b:List Nat)(ha:Dok a)(hb:Dok b)(hl:a.length<1000000):∀ (n i:Nat) (fr:List PV) (hp:List Blk) (wr:List Nat) (out:List Nat) (c:Nat),i+n=a.length →
  fr.length=44→nth fr 13=aM a→nth fr 14 = .sc (.int .i64 (a.length:Int))→nth fr 15 = .sc (.int .i64 (i:Int))→nth fr 1=aM b→nth fr 6 = .sc (.int .u32 (c:Int))→dI 0 hp out (nth fr 5)→out.length=i →
  Dok out→c≤1→val (a.take i)+c*1000000000 ^ i=val out+val (b.take i) →
  ∃ (fr':List PV) (hp':List Blk) (wr':List Nat) (out':List Nat) (c':Nat),cl (af (CC L) run k lY) (n+1) ⟨fr,hp,wr⟩=some (.exit 0,⟨fr',hp',wr'⟩)∧fr'.length=44∧dI 0 hp' out' (nth fr' 5)∧out'.length=a.length
   ∧ Dok out'∧c'≤1∧val a+c'*1000000000 ^ a.length=val out'+val (b.take a.length)
 | 0,i,fr,hp,wr,out,c,hi,h44,h13,h14,h15,h1,h6,hO,ho,hd,hc,hv=>by
  have:i=a.length:=by omega
  subst this
  obtain⟨fr',g1,g2,g3⟩:=Mk L run k fr hp wr a.length h44 h14 h15
  exact⟨fr',hp,wr,out,c,bD g1,g2,by rw[g3];exact hO,ho,hd,hc,by rw[← hv,List.take_length]⟩
 | n+1,i,fr,hp,wr,out,c,hi,h44,h13,h14,h15,h1,h6,hO,ho,hd,hc,hv=>by
  have hx:=cw ha i
  have hy:=cw hb i
  obtain⟨c',d,hs,hc',hdd⟩:∃ c' d,((at0 a i<c+at0 b i∧c'=1∧d=at0 a i+1000000000 - (c+at0 b i))∨(c+at0 b i≤at0 a i∧c'=0∧d=at0 a i - (c+at0 b i)))∧c'≤1∧d<1000000000:=by
   by_cases h:at0 a i<c+at0 b i
   ·exact⟨1,_,.inl ⟨h,rfl,rfl⟩,by omega,by omega⟩
   ·exact⟨0,_,.inr ⟨by omega,rfl,rfl⟩,by omega,by omega⟩
  obtain⟨fr1,hp1,wr1,g1,g2,g3,g4,g5,g6,g7,g8⟩:=CP L run k fr hp wr a b out i c c' d ha hb hc (by omega) hl h44 h13 h14 h15 h1 h6 hO ho hs
  obtain⟨fr',hp',wr',out',c2,q1,q2⟩:=vT L run k a b ha hb hl n (i+1) fr1 hp1 wr1 _ _ (by omega) g2 g3 g4 g5 g6 g7 g8 (by simp[ho]) (hd.append (Dok.nil.cons hdd)) hc'
   (by
    rw[cD,cD,dG,ho,Nat.pow_succ]
    exact Gt hv hs (by omega))
  exact⟨fr',hp',wr',out',c2,by rw[ch g1];exact q1,q2⟩
noncomputable def Gw:Code:=seq1 (seq1 (ah 3 lX))
theorem CO:ah 3 lX = .seq (.seq Gw (.block 0 (.loop lY))) (ah 4 lX):=rfl
theorem Mj (L:Lst)(run:ar)(k:Nat)(a b:List Nat)(hl:a.length<1000000)(hne:a≠[]) :
  ∃ fr hp wr,aY (CC L) run k 3 lX ⟨entry 44 [aM a,aM b],[],[]⟩=some ⟨fr,hp,wr⟩∧fr.length=44∧nth fr 0=aM a∧nth fr 1=aM b∧nth fr 6 = .sc (.int .u32 (0:Nat))∧dI 0 hp [] (nth fr 5):=by
 obtain⟨e1,e2,e3⟩:=cC 42 (aM a) (aM b)
 generalize entry 44 [aM a,aM b]=fr0 at *
 have hO:∀ n,dI 0 [⟨.live,rep n [dg 0]⟩] [] (.own 0 1 0 0 false):=fun n=>⟨Nat.zero_le _,.inr ⟨0,List.replicate n 0,Nat.le_refl _,by simp,rfl,by rw[qV];rfl⟩⟩
 have h1:a.length≤cY:=Nat.le_trans (Nat.le_of_lt hl) (by decide)
 have h2:(0 == a.length)=false:=by
  have:=List.length_pos_iff.2 hne
  simp;omega
 simp[lX,Tryz.f161,aY,e1,e2,e3,af,aJ,ao,aq,aH,ag,ai,aj,an,aF,aC,FP.none,aw,bM,bm,jA,aa,ae,ab,bh,and_assoc,ct,uD,s32,b32,z32,cn,h1,h2,aO,hO]
theorem YE (L:Lst)(run:ar)(k:Nat)(fr:List PV)(hp:List Blk)(wr:List Nat)(a:List Nat)(h44:fr.length=44)(h0:nth fr 0=aM a) :
  ∃ fr',af (CC L) run k Gw ⟨fr,hp,wr⟩=some (.normal,⟨fr',hp,wr⟩)∧fr'.length=44∧nth fr' 13=aM a∧nth fr' 14 = .sc (.int .i64 (a.length:Int))∧nth fr' 15 = .sc (.int .i64 (0:Nat))
   ∧ nth fr' 1=nth fr 1∧nth fr' 6=nth fr 6∧nth fr' 5=nth fr 5:=by
 simp[Gw,lX,ah,seq1,Tryz.f161,af,aJ,ao,aq,aH,ag,ai,aj,an,aF,aC,FP.none,aw,bM,aa,ae,ab,bh,ct,uD,h44,h0]
theorem Gv (L:Lst)(run:ar)(k:Nat)(fr:List PV)(hp:List Blk)(wr:List Nat)(h44:fr.length=44) :
  ∃ st,af (CC L) run k (ah 4 lX) ⟨fr,hp,wr⟩=some (.ret,st)∧aZ TT st.fr st.hp Tryz.f161.results.toList=some [nth fr 5]∧st.hp=hp:=by
 simp[lX,ah,Tryz.f161,af,aJ,ao,aq,aH,ag,ai,aj,an,aF,aC,FP.none,aa,ab,h44,aZ]
def vU:List PV→Option (List PV)
 | [p,q]=>match gW p,gW q with
  | some a,some b=>bif Nat.ble (val b) (val a) && Nat.ble b.length a.length && !(a.length.beq 0) then some [aM (db a.length (val a - val b))] else none
  | _,_=>none
 | _=>none
theorem Gu:Ab.Spec base.P 161 vU:=Ab.Spec.bQ (C:=CC []) (cV trivial) fun args rs h=>by
 unfold vU at h
 split at h
 ·split at h
  ·rename_i a b ea eb
   obtain⟨rfl,ha,hla⟩:=dA ea
   obtain⟨rfl,hb,hlb⟩:=dA eb
   cases hc:Nat.ble (val b) (val a) && Nat.ble b.length a.length && !(a.length.beq 0) with
   | false=>rw[hc] at h;cases h
   | true =>
    rw[hc] at h
    simp only[cond_true,Option.some.injEq] at h
    subst h
    simp only[Bool.and_eq_true,Nat.ble_eq,Bool.not_eq_true'] at hc
    obtain⟨⟨hle,hlen⟩,hne⟩:=hc
    have hne':a≠[]:=by intro e;subst e;simp at hne
    obtain⟨fr1,hp1,wr1,h1,h2,h3,h4,h5,h6⟩:=Mj [] (runK (CC []) (a.length+1)) (a.length+1) a b hla hne'
    obtain⟨fr2,g1,g2,g3,g4,g5,g6,g7,g8⟩:=YE [] (runK (CC []) (a.length+1)) (a.length+1) fr1 hp1 wr1 a h2 h3
    obtain⟨fr3,hp3,wr3,out,c,q1,q2,q3,q4,q5,q6,q7⟩:=vT [] (runK (CC []) (a.length+1)) (a.length+1) a b ha hb hla a.length 0 fr2 hp1 wr1 [] 0 (by simp) g2 g3 g4 g5 (by rw[g6,h4]) (by rw[g7,h5]) (by rw[g8];exact h6) rfl Dok.nil (by omega) (by simp[val])
    obtain⟨st,e1,e2,e3⟩:=Gv [] (runK (CC []) (a.length+1)) (a.length+1) fr3 hp3 wr3 q2
    have hx:af (CC []) (runK (CC []) (a.length+1)) (a.length+1) lX ⟨entry 44 [aM a,aM b],[],[]⟩=some (.ret,st):=by
     rw[aP 3 h1,CO,av ((av g1).trans (bH q1))]
     exact e1
    have hout:out=db a.length (val a - val b):=by
     refine q5.oS q4 ?_
     rw[cI _ _ hlen] at q7
     have hb1:=eL q5
     rw[q4] at hb1
     have:c=0∨c=1:=by omega
     rcases this with rfl | rfl <;> omega
    obtain⟨rs2,ids,r1,r2⟩:=q3.Gj
    rw[hout] at r2
    rw[← e3] at r1
    exact⟨a.length+2,_,_,_,rs2,ids,aX HN rfl hx e2,r1,r2⟩
  ·cases h
 ·cases h
theorem bu {L:Lst}{g:Nat}{f:List PV→Option (List PV)}(hs:base.shared g=false)(ho:bw L g=fun a=>f (aK a))(run:ar)(dr:Bool)(hp:List Blk)(args rs:List PV)
  (h1:bt (snap hp bp) args=some (args,[])) (h2:aK args=args) (h3:f args=some rs):cg (CC L) run dr hp g args=some (iO rs,hp,⟨[],[],false,false⟩):=by
 have h4:(CC L).orc g args=some rs:=by
  show bw L g args=_
  rw[ho];show f (aK args)=_;rw[h2,h3]
 by_cases h:rs.all eo=true
 ·exact lv hs h1 h4 h
 ·exact eI hs h1 h4 (by simpa using h)
theorem mn (hp:List Blk)(a b:List Nat):bt (snap hp bp) [aM a,aM b]=some ([aM a,aM b],[]):=rfl
theorem Jq (hp:List Blk)(n:Bool)(a:List Nat):bt (snap hp bp) [.sc (.bool n),aM a]=some ([.sc (.bool n),aM a],[]):=rfl
theorem ml (hp:List Blk)(a:Int):bt (snap hp bp) [bq a]=some ([bq a],[]):=rfl
theorem fK (hp:List Blk)(a b:Int):bt (snap hp bp) [bq a,bq b]=some ([bq a,bq b],[]):=rfl
theorem jU (a b:List Nat):aK [aM a,aM b]=[aM a,aM b]:=by simp only[aK,fA]
theorem DE (n:Bool)(a:List Nat):aK [.sc (.bool n),aM a]=[.sc (.bool n),aM a]:=by simp only[aK,fA,canon]
theorem jy (a:Int):aK [bq a]=[bq a]:=by simp only[aK,wP]
theorem eY (a b:Int):aK [bq a,bq b]=[bq a,bq b]:=by simp only[aK,wP]
def Sm (z:Int):Prop:=(aG z.natAbs).length<400000
theorem Sm.lt {z:Int}(h:Sm z):(aG z.natAbs).length<1000000:=Nat.lt_trans h (by decide)
theorem dV {p:PV}{z:Int}(h:fD p=some z):p=bq z∧Sm z:=Ha h
theorem cJ {z:Int}(h:Sm z):fD (bq z)=some z:=MV z h
theorem JW (L:Lst)(run:ar)(k:Nat)(z:Int) :
  ∃ st,af (CC L) run k (Tryz.f101.body.getD .skip) ⟨entry 11 [bq z],[],[]⟩=some (.ret,st)∧aZ TT st.fr st.hp Tryz.f101.results.toList=some [Ab.bJ z.sign]:=by
 obtain⟨e1,e2⟩:=cW 10 (bq z)
 generalize entry 11 [bq z]=fr0 at *
 cases z with
 | ofNat n =>
  cases n with
  | zero =>
   have e3:bq (Int.ofNat 0) = .agg [.sc (.bool false),aM []]:=rfl
   rw[e3] at e2
   simp[Tryz.f101,e1,e2,af,aJ,ao,aq,aH,ag,ai,aj,an,aF,aC,FP.none,bd,au,bj,aw,bM,bL,partOf,aa,ae,ab,bh,ct,bn,uD,uW,sD,aD,wf0,wf1,aO,aU,aV,br,aZ,Ab.bJ]
  | succ n =>
   have h0:=cU.2 (Nat.succ_ne_zero n)
   have e3:bq (Int.ofNat (n+1)) = .agg [.sc (.bool false),aM (aG (n+1))]:=rfl
   rw[e3] at e2
   have e4:(Int.ofNat (n+1)).sign=1:=rfl
   rw[e4]
   generalize aG (n+1)=l at *
   have h1:((l.length:Int) == 0)=false:=by simp;intro h;subst h;simp at h0
   have h2:l≠[]:=by intro h;subst h;simp at h0
   simp[Tryz.f101,e1,e2,af,aJ,ao,aq,aH,ag,ai,aj,an,aF,aC,FP.none,bd,au,bj,aw,bM,bL,partOf,aa,ae,ab,bh,ct,bn,uD,uW,sD,sB,aD,aB,wf0,wf1,aO,aU,aV,br,aZ,Ab.bJ,h1]
 | negSucc n =>
   have h0:=cU.2 (Nat.succ_ne_zero n)
   have e3:bq (Int.negSucc n) = .agg [.sc (.bool true),aM (aG (n+1))]:=rfl
   rw[e3] at e2
   have e4:(Int.negSucc n).sign = -1:=rfl
   rw[e4]
   generalize aG (n+1)=l at *
   have h1:((l.length:Int) == 0)=false:=by simp;intro h;subst h;simp at h0
   have h2:l≠[]:=by intro h;subst h;simp at h0
   simp[Tryz.f101,e1,e2,af,aJ,ao,aq,aH,ag,ai,aj,an,aF,aC,FP.none,bd,au,bj,aw,bM,bL,partOf,aa,ae,ab,bh,ct,bn,uD,uW,sD,sB,aD,aB,wf0,wf1,aO,aU,aV,br,aZ,Ab.bJ,h1]
def jf:List PV→Option (List PV)
 | [p]=>match fD p with
  | some z=>some [Ab.bJ z.sign]
  | none=>none
 | _=>none
theorem jD:Ab.Spec base.P 101 jf:=Ab.Spec.bQ (C:=CC []) (cV trivial) fun args rs h=>by
 unfold jf at h
 split at h
 ·split at h
  ·rename_i z hz
   obtain⟨rfl,-⟩:=dV hz
   simp only[Option.some.injEq] at h
   subst h
   obtain⟨st,e1,e2⟩:=JW [] (runK (CC []) 1) 1 z
   exact⟨2,_,_,_,_,_,aX NF rfl e1 e2,eE _ _,Wk.refl rfl,trivial⟩
  ·cases h
 ·cases h
noncomputable def L1:Lst:=[(167,jc),(152,fv),(160,Cp),(161,vU),(146,sf)]
theorem Jv:dL base.P L1:=⟨iK,je,LL,Gu,xR,trivial⟩
theorem Me:bw L1 152=fun a=>fv (aK a):=rfl
theorem X6:bw L1 160=fun a=>Cp (aK a):=rfl
theorem RC:bw L1 161=fun a=>vU (aK a):=rfl
theorem X3:bw L1 146=fun a=>sf (aK a):=rfl
theorem kp (run:ar)(dr:Bool)(hp:List Blk)(n:Bool)(l:List Nat)(hd:Dok l)(hl:l.length<1000000) :
  cg (CC L1) run dr hp 152 [.sc (.bool n),aM l]=some (bq (sgn n (val l)),hp,⟨[],[],false,false⟩) :=
 bu nQ Me run dr hp _ [bq (sgn n (val l))] (Jq hp n l) (DE n l) (by simp only[fv,cX hd hl])
theorem Nd (run:ar)(dr:Bool)(hp:List Blk)(a b:List Nat)(ha:Dok a)(hla:a.length<1000000)(hb:Dok b)(hlb:b.length<1000000) :
  cg (CC L1) run dr hp 160 [aM a,aM b]=some (aM (db (Nat.max a.length b.length+1) (val a+val b)),hp,⟨[],[],false,false⟩) :=
 bu VP X6 run dr hp _ [aM (db (Nat.max a.length b.length+1) (val a+val b))] (mn hp a b) (jU a b) (by simp only[Cp,cX ha hla,cX hb hlb])
theorem wS (run:ar)(dr:Bool)(hp:List Blk)(a b:List Nat)(ha:Dok a)(hla:a.length<1000000)(hb:Dok b)(hlb:b.length<1000000)(h:val b≤val a)(h':b.length≤a.length)(h0:a.length≠0) :
  cg (CC L1) run dr hp 161 [aM a,aM b]=some (aM (db a.length (val a - val b)),hp,⟨[],[],false,false⟩) :=
 bu OC RC run dr hp _ [aM (db a.length (val a - val b))] (mn hp a b) (jU a b) (by
  have h1:Nat.ble (val b) (val a)=true:=by rw[Nat.ble_eq];exact h
  have h2:Nat.ble b.length a.length=true:=by rw[Nat.ble_eq];exact h'
  have h3:a.length.beq 0=false:=by
   cases e:a.length with
   | zero=>exact absurd e h0
   | succ n=>rfl
  simp[vU,cX ha hla,cX hb hlb,h1,h2,h3])
theorem oh (run:ar)(dr:Bool)(hp:List Blk)(a b:List Nat)(ha:Dok a)(hla:a.length<1000000)(hb:Dok b)(hlb:b.length<1000000) :
  cg (CC L1) run dr hp 146 [aM a,aM b]=some (Ab.bJ (oy a b),hp,⟨[],[],false,false⟩) :=
 bu Ij X3 run dr hp _ [Ab.bJ (oy a b)] (mn hp a b) (jU a b) (by simp only[sf,cX ha hla,cX hb hlb])
theorem RZ (run:ar)(k:Nat)(n:Bool)(l:List Nat)(hd:Dok l)(hl:l.length<1000000) :
  ∃ st,af (CC L1) run k (Tryz.f149.body.getD .skip) ⟨entry 9 [wh n l],[],[]⟩=some (.ret,st)∧aZ TT st.fr st.hp Tryz.f149.results.toList=some [bq (sgn (!n) (val l))]:=by
 have hc:=fun hp dr=>kp run dr hp (!n) l hd hl
 obtain⟨e1,e2⟩:=cW 8 (wh n l)
 generalize entry 9 [wh n l]=fr0 at *
 have e3:wh n l = .agg [.sc (.bool n),aM l]:=rfl
 have e4:bq (sgn (!n) (val l)) = .agg [.sc (.bool (bx (sgn (!n) (val l)))),aM (aG (sgn (!n) (val l)).natAbs)]:=rfl
 rw[e3] at e2
 rw[e4] at hc ⊢
 generalize aG (sgn (!n) (val l)).natAbs=m at *
 generalize bx (sgn (!n) (val l))=nn at *
 simp[Tryz.f149,e1,e2,af,aJ,ao,aq,aH,ag,ai,aQ,aj,an,aF,aC,FP.none,bL,partOf,unP,aa,ae,ab,bh,bn,bX,bC,bg,hc,uW,sD,sB,sW,aD,aB,aW,zW,wf0,wf1,aO,aU,aV,bO,cj,bG,br,aZ]
theorem aa7 (z:Int):sgn (bx z) z.natAbs=z:=by
 cases z with
 | ofNat n=>rfl
 | negSucc n=>rfl
theorem V3 (z:Int):sgn (!bx z) z.natAbs = -z:=by
 cases z with
 | ofNat n=>show Int.negOfNat n = -(Int.ofNat n);cases n <;> rfl
 | negSucc n=>rfl
def rC:List PV→Option (List PV)
 | [p]=>match fD p with
  | some z=>some [bq (-z)]
  | none=>none
 | _=>none
theorem mX:Ab.Spec base.P 149 rC:=Ab.Spec.bQ (C:=CC L1) (cV Jv) fun args rs h=>by
 unfold rC at h
 split at h
 ·split at h
  ·rename_i z hz
   obtain⟨rfl,hs⟩:=dV hz
   simp only[Option.some.injEq] at h
   subst h
   obtain⟨st,e1,e2⟩:=RZ (runK (CC L1) 1) 1 (bx z) (aG z.natAbs) (bU _) hs.lt
   rw[bZ,V3] at e2
   exact⟨2,_,_,_,_,_,aX U3 rfl e1 e2,ji _ _,Wk.refl rfl,trivial⟩
  ·cases h
 ·cases h
noncomputable def Ht:Code:=Tryz.f139.body.getD .skip
theorem whW (z:Int):bq z = .agg [.sc (.bool (bx z)),aM (aG z.natAbs)]:=rfl
set_option maxHeartbeats 1000000 in
theorem Nw (run:ar)(k:Nat)(n:Bool)(a b:List Nat)(ha:Dok a)(hla:a.length<400000)(hb:Dok b)(hlb:b.length<400000) :
  ∃ st,af (CC L1) run k Ht ⟨entry 42 [wh n a,wh n b],[],[]⟩=some (.ret,st)∧aZ TT st.fr st.hp Tryz.f139.results.toList=some [bq (sgn n (val a+val b))]:=by
 have hm:Nat.max a.length b.length≤400000:=Nat.max_le.2 ⟨by omega,by omega⟩
 have hv:val (db (Nat.max a.length b.length+1) (val a+val b))=val a+val b:=fi _ _ (by
  have h1:=eL ha
  have h2:=eL hb
  have h3:=Nat.pow_le_pow_right (n:=1000000000) (by omega) (Nat.le_max_left a.length b.length)
  have h4:=Nat.pow_le_pow_right (n:=1000000000) (by omega) (Nat.le_max_right a.length b.length)
  have h5:a.length.max b.length=max a.length b.length:=rfl
  rw[h5,Nat.pow_succ];omega)
 have hc:=fun hp dr=>Nd run dr hp a b ha (by omega) hb (by omega)
 have hc2:=fun hp dr=>kp run dr hp n (db (Nat.max a.length b.length+1) (val a+val b)) (gp _ _) (by rw[dn];omega)
 rw[hv] at hc2
 generalize db (Nat.max a.length b.length+1) (val a+val b)=m at *
 obtain⟨e1,e2,e3⟩:=cC 40 (wh n a) (wh n b)
 generalize entry 42 [wh n a,wh n b]=fr0 at *
 have e4:∀ l,wh n l = .agg [.sc (.bool n),aM l]:=fun _=>rfl
 rw[e4] at e2 e3
 simp only[whW] at hc2 ⊢
 generalize aG (sgn n (val a+val b)).natAbs=r at *
 generalize bx (sgn n (val a+val b))=nn at *
 simp[Ht,Tryz.f139,e1,e2,e3,af,aJ,ao,aq,aH,ag,ai,aQ,aj,an,aF,aC,FP.none,bd,dE,bL,partOf,aa,ae,ab,bh,bn,bX,bC,bg,hc,hc2,uB,uW,sD,sB,sW,aD,aB,aW,zW,wf0,wf1,aO,aU,aV,bO,cj,bG,br,aZ,number,FP.free,cF,FP.apart]
theorem lD (x y:Nat):oy (aG x) (aG y)=dQ x y:=by
 unfold oy
 by_cases h1:(aG x).length<(aG y).length
 ·rw[if_pos h1,dQ,if_pos]
  exact Nat.lt_of_not_le fun h=>absurd (cH h) (by omega)
 ·rw[if_neg h1]
  by_cases h2:(aG y).length<(aG x).length
  ·have h3:y<x:=Nat.lt_of_not_le fun h=>absurd (cH h) (by omega)
   rw[if_pos h2,dQ,if_neg (by omega),if_neg (by omega)]
  ·rw[if_neg h2,bZ,bZ]
set_option maxHeartbeats 1000000 in
theorem Nv (run:ar)(k:Nat)(n:Bool)(x y:Nat)(hla:(aG x).length<400000)(hlb:(aG y).length<400000)(hxy:x<y) :
  ∃ st,af (CC L1) run k Ht ⟨entry 42 [wh n (aG x),wh (!n) (aG y)],[],[]⟩=some (.ret,st)∧aZ TT st.fr st.hp Tryz.f139.results.toList=some [bq (sgn (!n) (y - x))]:=by
 have hv:val (db (aG y).length (y - x))=y - x:=fi _ _ (Nat.lt_of_le_of_lt (Nat.sub_le _ _) (fy y))
 have hy0:(aG y).length≠0:=by
  have:=(cU (n:=y)).2 (by omega)
  omega
 have hc0:=fun hp dr=>oh run dr hp (aG x) (aG y) (bU _) (by omega) (bU _) (by omega)
 rw[lD,dQ,if_pos hxy] at hc0
 have hc:=fun hp dr=>wS run dr hp (aG y) (aG x) (bU _) (by omega) (bU _) (by omega) (by rw[bZ,bZ];omega) (cH (Nat.le_of_lt hxy)) hy0
 rw[bZ,bZ] at hc
 have hc2:=fun hp dr=>kp run dr hp (!n) (db (aG y).length (y - x)) (gp _ _) (by rw[dn];omega)
 rw[hv] at hc2
 generalize db (aG y).length (y - x)=m at *
 obtain⟨e1,e2,e3⟩:=cC 40 (wh n (aG x)) (wh (!n) (aG y))
 generalize entry 42 [wh n (aG x),wh (!n) (aG y)]=fr0 at *
 have e4:∀ n l,wh n l = .agg [.sc (.bool n),aM l]:=fun _ _=>rfl
 rw[e4] at e2 e3
 simp only[whW] at hc2 ⊢
 generalize aG (sgn (!n) (y - x)).natAbs=r at *
 generalize bx (sgn (!n) (y - x))=nn at *
 have hnn:(n == !n)=false:=by cases n <;> rfl
 simp only[Ab.bJ] at hc0
 simp[Ht,Tryz.f139,e1,e2,e3,af,aJ,ao,aq,aH,ag,ai,aQ,aj,an,aF,aC,FP.none,bd,au,bj,dE,aw,bL,partOf,aa,ae,ab,bh,bn,bX,bC,bg,hc,hc0,hc2,hnn,uB,uW,sD,sB,sW,aD,aB,aW,zW,wf0,wf1,aO,aU,aV,bO,cj,bG,br,aZ,number,FP.free,cF,FP.apart]
set_option maxHeartbeats 1000000 in
theorem Nu (run:ar)(k:Nat)(n:Bool)(x y:Nat)(hla:(aG x).length<400000)(hlb:(aG y).length<400000)(hxy:y≤x)(hx:x≠0) :
  ∃ st,af (CC L1) run k Ht ⟨entry 42 [wh n (aG x),wh (!n) (aG y)],[],[]⟩=some (.ret,st)∧aZ TT st.fr st.hp Tryz.f139.results.toList=some [bq (sgn n (x - y))]:=by
 have hv:val (db (aG x).length (x - y))=x - y:=fi _ _ (Nat.lt_of_le_of_lt (Nat.sub_le _ _) (fy x))
 have hx0:(aG x).length≠0:=by
  have:=(cU (n:=x)).2 (by omega)
  omega
 have hc0:=fun hp dr=>oh run dr hp (aG x) (aG y) (bU _) (by omega) (bU _) (by omega)
 have hcz:decide (dQ x y<0)=false:=by
  apply decide_eq_false
  unfold dQ
  rw[if_neg (by omega)]
  by_cases h:x=y
  ·rw[if_pos h];omega
  ·rw[if_neg h];omega
 have hcz' : ¬ (dQ x y<0):=by simpa using hcz
 rw[lD] at hc0
 have hc:=fun hp dr=>wS run dr hp (aG x) (aG y) (bU _) (by omega) (bU _) (by omega) (by rw[bZ,bZ];omega) (cH hxy) hx0
 rw[bZ,bZ] at hc
 have hc2:=fun hp dr=>kp run dr hp n (db (aG x).length (x - y)) (gp _ _) (by rw[dn];omega)
 rw[hv] at hc2
 generalize db (aG x).length (x - y)=m at *
 obtain⟨e1,e2,e3⟩:=cC 40 (wh n (aG x)) (wh (!n) (aG y))
 generalize entry 42 [wh n (aG x),wh (!n) (aG y)]=fr0 at *
 have e4:∀ n l,wh n l = .agg [.sc (.bool n),aM l]:=fun _ _=>rfl
 rw[e4] at e2 e3
 simp only[whW] at hc2 ⊢
 generalize aG (sgn n (x - y)).natAbs=r at *
 generalize bx (sgn n (x - y))=nn at *
 have hnn:(n == !n)=false:=by cases n <;> rfl
 simp only[Ab.bJ] at hc0
 generalize dQ x y=cc at *
 simp[Ht,Tryz.f139,e1,e2,e3,af,aJ,ao,aq,aH,ag,ai,aQ,aj,an,aF,aC,FP.none,bd,au,bj,dE,aw,bL,partOf,aa,ae,ab,bh,bn,bX,bC,bg,hc,hc0,hc2,hnn,hcz',uB,uW,sD,sB,sW,aD,aB,aW,zW,wf0,wf1,aO,aU,aV,bO,cj,bG,br,aZ,number,FP.free,cF,FP.apart]
theorem qQ (n:Bool)(v:Nat):sgn n v=if n=true then -(v:Int) else (v:Int):=by
 cases n with
 | false=>rfl
 | true =>
  show Int.negOfNat v=_
  cases v <;> rfl
theorem V5 {x y:Int}(h:bx x=bx y):sgn (bx x) (x.natAbs+y.natAbs)=x+y:=by
 rw[qQ]
 rw[cN,cN] at h
 rw[cN]
 by_cases hx:x<0 <;> by_cases hy:y<0 <;> simp[hx,hy] at h ⊢ <;> omega
theorem OS {x y:Int}(h : ¬ bx x=bx y)(hl:x.natAbs<y.natAbs):sgn (!bx x) (y.natAbs - x.natAbs)=x+y:=by
 rw[qQ]
 rw[cN,cN] at h
 rw[cN]
 by_cases hx:x<0 <;> by_cases hy:y<0 <;> simp[hx,hy] at h ⊢ <;> omega
theorem OQ {x y:Int}(h : ¬ bx x=bx y)(hl:y.natAbs≤x.natAbs):sgn (bx x) (x.natAbs - y.natAbs)=x+y:=by
 rw[qQ]
 rw[cN,cN] at h
 rw[cN]
 by_cases hx:x<0 <;> by_cases hy:y<0 <;> simp[hx,hy] at h ⊢ <;> omega
theorem UI (run:ar)(k:Nat)(x y:Int)(hx:Sm x)(hy:Sm y) :
  ∃ st,af (CC L1) run k Ht ⟨entry 42 [bq x,bq y],[],[]⟩=some (.ret,st)∧aZ TT st.fr st.hp Tryz.f139.results.toList=some [bq (x+y)]:=by
 by_cases hn:bx x=bx y
 ·have:=Nw run k (bx x) (aG x.natAbs) (aG y.natAbs) (bU _) hx (bU _) hy
  rw[bZ,bZ] at this
  rw[V5 hn] at this
  simp only[bq]
  rw[← hn];exact this
 ·have hn':bx y = !bx x:=by
   revert hn;cases bx x <;> cases bx y <;> simp
  by_cases hxy:x.natAbs<y.natAbs
  ·have:=Nv run k (bx x) x.natAbs y.natAbs hx hy hxy
   rw[OS hn hxy] at this
   simp only[bq]
   rw[hn'];exact this
  ·have hx0:x.natAbs≠0:=by
    intro h0
    have:y.natAbs=0:=by omega
    have hx:x=0:=by omega
    have hy:y=0:=by omega
    subst hx;subst hy
    exact hn rfl
   have:=Nu run k (bx x) x.natAbs y.natAbs hx hy (by omega) hx0
   rw[OQ hn (by omega)] at this
   simp only[bq]
   rw[hn'];exact this
def rT:List PV→Option (List PV)
 | [p,q]=>match fD p,fD q with
  | some x,some y=>some [bq (x+y)]
  | _,_=>none
 | _=>none
theorem nG:Ab.Spec base.P 139 rT:=Ab.Spec.bQ (C:=CC L1) (cV Jv) fun args rs h=>by
 unfold rT at h
 split at h
 ·split at h
  ·rename_i x y ex ey
   obtain⟨rfl,hx⟩:=dV ex
   obtain⟨rfl,hy⟩:=dV ey
   simp only[Option.some.injEq] at h
   subst h
   obtain⟨st,e1,e2⟩:=UI (runK (CC L1) 1) 1 x y hx hy
   exact⟨2,_,_,_,_,_,aX U8 rfl e1 e2,ji _ _,Wk.refl rfl,trivial⟩
  ·cases h
 ·cases h
noncomputable def L2:Lst:=[(149,rC),(139,rT)]
theorem afA:dL base.P L2:=⟨mX,nG,trivial⟩
theorem abV:bw L2 149=fun a=>rC (aK a):=rfl
theorem abW:bw L2 139=fun a=>rT (aK a):=rfl
theorem Sm.neg {z:Int}(h:Sm z):Sm (-z):=by unfold Sm at *;rwa [Int.natAbs_neg]
theorem Us (run:ar)(dr:Bool)(hp:List Blk)(x:Int)(hx:Sm x):cg (CC L2) run dr hp 149 [bq x]=some (bq (-x),hp,⟨[],[],false,false⟩) :=
 bu EV abV run dr hp _ [bq (-x)] (ml hp x) (jy x) (by simp only[rC,cJ hx])
theorem Ut (run:ar)(dr:Bool)(hp:List Blk)(x y:Int)(hx:Sm x)(hy:Sm y):cg (CC L2) run dr hp 139 [bq x,bq y]=some (bq (x+y),hp,⟨[],[],false,false⟩) :=
 bu EY abW run dr hp _ [bq (x+y)] (fK hp x y) (eY x y) (by simp only[rT,cJ hx,cJ hy])
noncomputable def aey:Code:=Tryz.f168.body.getD .skip
theorem Oi (run:ar)(k:Nat)(x y:Int)(hx:Sm x)(hy:Sm y) :
  ∃ st,af (CC L2) run k aey ⟨entry 9 [bq x,bq y],[],[]⟩=some (.ret,st)∧aZ TT st.fr st.hp Tryz.f168.results.toList=some [bq (x - y)]:=by
 have hc1:=fun hp dr=>Us run dr hp y hy
 have hc2:=fun hp dr=>Ut run dr hp x (-y) hx hy.neg
 rw[← Int.sub_eq_add_neg] at hc2
 obtain⟨e1,e2,e3⟩:=cC 7 (bq x) (bq y)
 generalize entry 9 [bq x,bq y]=fr0 at *
 simp only[whW] at hc1 hc2 e2 e3 ⊢
 generalize aG (-y).natAbs=ry at *
 generalize bx (-y)=ny at *
 generalize aG (x - y).natAbs=rz at *
 generalize bx (x - y)=nz at *
 generalize aG x.natAbs=rx at *
 generalize bx x=nx at *
 generalize aG y.natAbs=rw at *
 generalize bx y=nw at *
 simp[aey,Tryz.f168,e1,e2,e3,af,aJ,ao,aq,aH,ag,ai,aQ,aj,an,aF,aC,partOf,aa,ae,ab,bh,bn,bX,bC,bg,hc1,hc2,sW,aW,zW,aO,aU,aV,bO,cj,bG,br,aZ,number,FP.free,cF,FP.apart]
def Ez:List PV→Option (List PV)
 | [p,q]=>match fD p,fD q with
  | some x,some y=>some [bq (x - y)]
  | _,_=>none
 | _=>none
theorem uq:Ab.Spec base.P 168 Ez:=Ab.Spec.bQ (C:=CC L2) (cV afA) fun args rs h=>by
 unfold Ez at h
 split at h
 ·split at h
  ·rename_i x y ex ey
   obtain⟨rfl,hx⟩:=dV ex
   obtain⟨rfl,hy⟩:=dV ey
   simp only[Option.some.injEq] at h
   subst h
   obtain⟨st,e1,e2⟩:=Oi (runK (CC L2) 1) 1 x y hx hy
   exact⟨2,_,_,_,_,_,aX U2 rfl e1 e2,ji _ _,Wk.refl rfl,trivial⟩
  ·cases h
 ·cases h
noncomputable def Hb:Code:=Tryz.f96.body.getD .skip
theorem MZ (L:Lst)(run:ar)(k:Nat)(n:Bool)(a b:List Nat) :
  ∃ st,af (CC L) run k Hb ⟨entry 26 [wh n a,wh (!n) b],[],[]⟩=some (.ret,st)∧aZ TT st.fr st.hp Tryz.f96.results.toList=some [Ab.bJ (bif n then -1 else 1)]:=by
 obtain⟨e1,e2,e3⟩:=cC 24 (wh n a) (wh (!n) b)
 generalize entry 26 [wh n a,wh (!n) b]=fr0 at *
 have e4:∀ n l,wh n l = .agg [.sc (.bool n),aM l]:=fun _ _=>rfl
 rw[e4] at e2 e3
 cases n
 ·simp[Hb,Tryz.f96,e1,e2,e3,af,aJ,ao,aq,aH,ag,ai,aj,an,aF,aC,FP.none,bd,dE,aw,bL,partOf,aa,ae,ab,bh,bn,uB,uW,sB,aB,wf0,wf1,aO,aU,aV,br,aZ,Ab.bJ]
 ·simp[Hb,Tryz.f96,e1,e2,e3,af,aJ,ao,aq,aH,ag,ai,aj,an,aF,aC,FP.none,bd,dE,aw,bL,partOf,aa,ae,ab,bh,bn,uB,uW,sB,aB,wf0,wf1,aO,aU,aV,br,aZ,Ab.bJ]
theorem MY (run:ar)(k:Nat)(n:Bool)(x y:Nat)(hla:(aG x).length<400000)(hlb:(aG y).length<400000) :
  ∃ st,af (CC L1) run k Hb ⟨entry 26 [wh n (aG x),wh n (aG y)],[],[]⟩=some (.ret,st)∧aZ TT st.fr st.hp Tryz.f96.results.toList=some [Ab.bJ (bif n then dQ y x else dQ x y)]:=by
 have hc0:=fun hp dr=>oh run dr hp (aG x) (aG y) (bU _) (by omega) (bU _) (by omega)
 have hc1:=fun hp dr=>oh run dr hp (aG y) (aG x) (bU _) (by omega) (bU _) (by omega)
 rw[lD] at hc0 hc1
 obtain⟨e1,e2,e3⟩:=cC 24 (wh n (aG x)) (wh n (aG y))
 generalize entry 26 [wh n (aG x),wh n (aG y)]=fr0 at *
 have e4:∀ n l,wh n l = .agg [.sc (.bool n),aM l]:=fun _ _=>rfl
 rw[e4] at e2 e3
 simp only[Ab.bJ] at hc0 hc1
 generalize dQ x y=cc at *
 generalize dQ y x=dd at *
 cases n
 ·simp[Hb,Tryz.f96,e1,e2,e3,af,aJ,ao,aq,aH,ag,ai,aQ,aj,an,aF,aC,FP.none,bd,dE,aw,bL,partOf,aa,ae,ab,bh,bn,hc0,uB,uW,sD,sB,aD,aB,wf0,wf1,aO,aU,aV,br,aZ,Ab.bJ]
 ·simp[Hb,Tryz.f96,e1,e2,e3,af,aJ,ao,aq,aH,ag,ai,aQ,aj,an,aF,aC,FP.none,bd,dE,aw,bL,partOf,aa,ae,ab,bh,bn,hc1,uB,uW,sD,sB,aD,aB,wf0,wf1,aO,aU,aV,br,aZ,Ab.bJ]
def fF (x y:Int):Int:=if x<y then -1 else if x=y then 0 else 1
theorem T9 (run:ar)(k:Nat)(x y:Int)(hx:Sm x)(hy:Sm y) :
  ∃ st,af (CC L1) run k Hb ⟨entry 26 [bq x,bq y],[],[]⟩=some (.ret,st)∧aZ TT st.fr st.hp Tryz.f96.results.toList=some [Ab.bJ (fF x y)]:=by
 by_cases hn:bx x=bx y
 ·have:=MY run k (bx x) x.natAbs y.natAbs hx hy
  have e:(bif bx x then dQ y.natAbs x.natAbs else dQ x.natAbs y.natAbs)=fF x y:=by
   rw[cN,cN] at hn
   rw[cN]
   unfold fF dQ
   by_cases hx:x<0 <;> by_cases hy:y<0 <;> simp[hx,hy] at hn ⊢
   ·by_cases h1:x<y
    ·rw[if_pos (by omega),if_pos h1]
    ·rw[if_neg (by omega),if_neg h1]
     by_cases h2:x=y
     ·rw[if_pos (by omega),if_pos h2]
     ·rw[if_neg (by omega),if_neg h2]
   ·by_cases h1:x<y
    ·rw[if_pos (by omega),if_pos h1]
    ·rw[if_neg (by omega),if_neg h1]
     by_cases h2:x=y
     ·rw[if_pos (by omega),if_pos h2]
     ·rw[if_neg (by omega),if_neg h2]
  rw[e] at this
  simp only[bq]
  rw[← hn];exact this
 ·have hn':bx y = !bx x:=by
   revert hn;cases bx x <;> cases bx y <;> simp
  have:=MZ L1 run k (bx x) (aG x.natAbs) (aG y.natAbs)
  have e:(bif bx x then (-1:Int) else 1)=fF x y:=by
   rw[cN,cN] at hn
   rw[cN]
   unfold fF
   by_cases hx:x<0 <;> by_cases hy:y<0 <;> simp[hx,hy] at hn ⊢
   ·intro h;omega
   ·rw[if_neg (by omega),if_neg (by omega)]
  rw[e] at this
  simp only[bq]
  rw[hn'];exact this
def qo:List PV→Option (List PV)
 | [p,q]=>match fD p,fD q with
  | some x,some y=>some [Ab.bJ (fF x y)]
  | _,_=>none
 | _=>none
theorem nB:Ab.Spec base.P 96 qo:=Ab.Spec.bQ (C:=CC L1) (cV Jv) fun args rs h=>by
 unfold qo at h
 split at h
 ·split at h
  ·rename_i x y ex ey
   obtain⟨rfl,hx⟩:=dV ex
   obtain⟨rfl,hy⟩:=dV ey
   simp only[Option.some.injEq] at h
   subst h
   obtain⟨st,e1,e2⟩:=T9 (runK (CC L1) 1) 1 x y hx hy
   exact⟨2,_,_,_,_,_,aX U7 rfl e1 e2,eE _ _,Wk.refl rfl,trivial⟩
  ·cases h
 ·cases h
end Go.Proofs.YtjdmodeenbdfpaaGreat
