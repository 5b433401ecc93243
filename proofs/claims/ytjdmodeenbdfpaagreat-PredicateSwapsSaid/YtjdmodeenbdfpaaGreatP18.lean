/- Contracts of num's integers, part 18 of the proof; each lemma states its own conditions. -/
import Derived.Test.YtjdmodeenbdfpaaGreatP17
set_option linter.unusedSimpArgs false
set_option linter.unusedVariables false
namespace Go.Proofs.YtjdmodeenbdfpaaGreat
open Go Go.Ab
theorem mz (n:Nat):fZ TT 68 1 [(0,dg n)]=some (1,[dg n]):=So uD s32 z32 n
noncomputable def vu:Code:=((Tryz.f160.body).bind aF).getD .skip
noncomputable def jU:Code:=Tryz.f160.body.getD .skip
theorem QX (L:Lst)(run:aq)(k:Nat)(fr:List PV)(hp:List Blk)(wr:List Nat)(n:Nat)(h52:fr.length=52)
  (h21:nth fr 21 = .sc (.int .i64 (n:Int))) (h22:nth fr 22 = .sc (.int .i64 (n:Int))) :
  ∃ fr',af (CC L) run k vu ⟨fr,hp,wr⟩=some (.exit 0,⟨fr',hp,wr⟩)∧fr'.length=52∧nth fr' 5=nth fr 5∧nth fr' 6=nth fr 6:=by
 simp[vu,Tryz.f160,aF,af,aH,an,ao,aG,ag,ai,aj,ak,aC,az,FP.none,bc,ar,bd,aa,ae,ab,h52,h21,h22]
set_option maxHeartbeats 2000000 in
theorem Gv (L:Lst)(run:aq)(k:Nat)(fr:List PV)(hp:List Blk)(wr:List Nat)(a b out:List Nat)(i c s:Nat)(ha:Dok a)(hb:Dok b)(hc:c≤1)(hi:i<a.length)(hl:a.length<1000000)
  (h52:fr.length=52) (h20:nth fr 20=aL a) (h21:nth fr 21 = .sc (.int .i64 (a.length:Int))) (h22:nth fr 22 = .sc (.int .i64 (i:Int))) (h1:nth fr 1=aL b)
  (h6:nth fr 6 = .sc (.int .u32 (c:Int))) (hO:dB 0 hp out (nth fr 5)) (ho:out.length=i) (hs:s=at0 a i+c+at0 b i) :
  ∃ fr' hp' wr',af (CC L) run k vu ⟨fr,hp,wr⟩=some (.normal,⟨fr',hp',wr'⟩)∧fr'.length=52∧nth fr' 20=aL a∧nth fr' 21 = .sc (.int .i64 (a.length:Int))
   ∧ nth fr' 22 = .sc (.int .i64 ((i+1:Nat):Int))∧nth fr' 1=aL b∧nth fr' 6 = .sc (.int .u32 ((s / 1000000000:Nat):Int))∧dB 0 hp' (out++[s % 1000000000]) (nth fr' 5):=by
 have hda:=eF a i hi
 have hax:=ha.get hi
 rw[cV hi] at hs
 generalize a[i]=x at *
 have e1:aL a = .imm a.length false (a.map dg):=rfl
 have e2:aL b = .imm b.length false (b.map dg):=rfl
 have hdx:dg x = .sc (.int .u32 (x:Int)):=rfl
 rw[e1] at h20 ⊢;rw[e2] at h1 ⊢;rw[hdx] at hda
 obtain⟨s1,hs1⟩:∃ s1,s1=x+c:=⟨_,rfl⟩
 have hw1:bu .u32 ((x:Int)+(c:Int))=(s1:Int):=dm .u32 x c s1 hs1 (ib (by omega))
 have hwi:=bF i (by omega)
 have hb9:=cf hb i
 obtain⟨q,hq⟩:∃ q,q=s / 1000000000:=⟨_,rfl⟩
 obtain⟨r,hr⟩:∃ r,r=s % 1000000000:=⟨_,rfl⟩
 have hw3:bu .u32 ((s:Int) / 1000000000)=(q:Int):=iX .u32 s q hq (ib (by omega))
 obtain⟨p',hp',fp,h7,h8,h9⟩:=hO.app r (ho ▸ Nat.lt_trans hi (Nat.lt_trans hl (by decide)))
 rw[← hq,← hr]
 by_cases hib:i<b.length
 ·have hdb:=eF b i hib
  rw[cV hib] at hs hb9
  generalize b[i]=y at *
  have hdy:dg y = .sc (.int .u32 (y:Int)):=rfl
  rw[hdy] at hdb
  have hw2:bu .u32 ((s1:Int)+(y:Int))=(s:Int):=dm .u32 s1 y s (by omega) (ib (by omega))
  have hw4:((s:Int).tmod 1000000000)=(r:Int):=ku s r hr
  simp[vu,Tryz.f160,aF,af,aH,an,ao,aG,ag,ai,aj,ak,aC,az,FP.none,bc,ar,bd,au,bH,ba,bj,partOf,aa,ae,ab,bf,and_assoc,cL,aX,df,h52,h20,h21,h22,h1,h6,uD,s32,b32,z32,a32,hi,hib,hda,hdb,aU,hw1,hw2,hw3,hw4,hwi,gH r,mz,mh,iZ,bS,h7,h8]
 ·rw[iu (Nat.le_of_not_lt hib)] at hs
  have:s1=s:=by omega
  subst this
  have hw4:((s1:Int).tmod 1000000000)=(r:Int):=ku s1 r hr
  simp[vu,Tryz.f160,aF,af,aH,an,ao,aG,ag,ai,aj,ak,aC,az,FP.none,bc,ar,bd,au,bH,ba,bj,partOf,aa,ae,ab,bf,and_assoc,cL,aX,df,h52,h20,h21,h22,h1,h6,uD,s32,b32,z32,a32,hi,hib,hda,aU,hw1,hw3,hw4,hwi,gH r,mz,mh,iZ,bS,h7,h8]
theorem LU {va vb vo x c y P s q r:Nat}(h:vo+c*P=va+vb)(hs:s=x+c+y)(hq:q=s / 1000000000)(hr:r=s % 1000000000) :
  vo+P*r+q*(P*1000000000)=va+x*P+(vb+y*P):=by
 have e:s=r+1000000000*q:=by omega
 have e2:s*P=(r+1000000000*q)*P:=by rw[e]
 subst hs
 simp only[Nat.add_mul] at e2 ⊢
 have e3:1000000000*q*P=q*(P*1000000000):=by grind
 have e4:r*P=P*r:=Nat.mul_comm _ _
 omega
theorem yH (L:Lst)(run:aq)(k:Nat)(a b:List Nat)(ha:Dok a)(hb:Dok b)(hl:a.length<1000000):∀ (n i:Nat) (fr:List PV) (hp:List Blk) (wr:List Nat) (out:List Nat) (c:Nat),i+n=a.length →
  fr.length=52→nth fr 20=aL a→nth fr 21 = .sc (.int .i64 (a.length:Int))→nth fr 22 = .sc (.int .i64 (i:Int))→nth fr 1=aL b→nth fr 6 = .sc (.int .u32 (c:Int))→dB 0 hp out (nth fr 5)→out.length=i →
  Dok out→c≤1→val out+c*1000000000 ^ i=val (a.take i)+val (b.take i) →
  ∃ (fr':List PV) (hp':List Blk) (wr':List Nat) (out':List Nat) (c':Nat),bX (af (CC L) run k vu) (n+1) ⟨fr,hp,wr⟩=some (.exit 0,⟨fr',hp',wr'⟩)∧fr'.length=52∧nth fr' 6 = .sc (.int .u32 (c':Int))∧dB 0 hp' out' (nth fr' 5)∧out'.length=a.length
   ∧ Dok out'∧c'≤1∧val out'+c'*1000000000 ^ a.length=val a+val (b.take a.length)
 | 0,i,fr,hp,wr,out,c,hi,h52,h20,h21,h22,h1,h6,hO,ho,hd,hc,hv=>by
  have:i=a.length:=by omega
  subst this
  obtain⟨fr',g1,g2,g3,g4⟩:=QX L run k fr hp wr a.length h52 h21 h22
  exact⟨fr',hp,wr,out,c,bw g1,g2,by rw[g4,h6],by rw[g3];exact hO,ho,hd,hc,by rw[hv,List.take_length]⟩
 | n+1,i,fr,hp,wr,out,c,hi,h52,h20,h21,h22,h1,h6,hO,ho,hd,hc,hv=>by
  obtain⟨fr1,hp1,wr1,g1,g2,g3,g4,g5,g6,g7,g8⟩:=Gv L run k fr hp wr a b out i c _ ha hb hc (by omega) hl h52 h20 h21 h22 h1 h6 hO ho rfl
  obtain⟨fr',hp',wr',out',c',q1,q2⟩:=yH L run k a b ha hb hl n (i+1) fr1 hp1 wr1 _ _ (by omega) g2 g3 g4 g5 g6 g7 g8 (by simp[ho]) (hd.append (Dok.nil.cons (Nat.mod_lt _ (by omega))))
   (by have:=cf ha i;have:=cf hb i;omega)
   (by
    rw[ch,ch,dw,ho,Nat.pow_succ]
    exact LU hv rfl rfl rfl)
  exact⟨fr',hp',wr',out',c',by rw[bV g1];exact q1,q2⟩
noncomputable def QY:Code:=seq1 (seq1 (ah 4 jU))
theorem Gu:ah 4 jU = .seq (.seq QY (.block 0 (.loop vu))) (ah 5 jU):=rfl
theorem LX (L:Lst)(run:aq)(k:Nat)(a b:List Nat)(a' b':List Nat)(hab:(b.length≤a.length∧a'=a∧b'=b)∨(a.length<b.length∧a'=b∧b'=a)) :
  ∃ fr wr,aY (CC L) run k 2 jU ⟨entry 52 [aL a,aL b],[],[]⟩=some ⟨fr,[],wr⟩∧fr.length=52∧nth fr 0=aL a'∧nth fr 1=aL b':=by
 obtain⟨e1,e2,e3⟩:=cA 50 (aL a) (aL b)
 generalize entry 52 [aL a,aL b]=fr0 at *
 rcases hab with ⟨h,rfl,rfl⟩| ⟨h,rfl,rfl⟩
 ·have hn : ¬ (a'.length<b'.length):=by omega
  simp[jU,Tryz.f160,aY,e1,e2,e3,af,aH,an,ao,aG,ag,ai,aj,ak,aC,az,FP.none,bc,ar,bd,au,bH,aa,ae,ab,bf,and_assoc,ca,uD,hn]
 ·simp[jU,Tryz.f160,aY,e1,e2,e3,af,aH,an,ao,aG,ag,ai,aj,ak,aC,az,FP.none,bc,ar,bd,au,bH,aa,ae,ab,bf,and_assoc,ca,uD,h]
theorem LV (L:Lst)(run:aq)(k:Nat)(a:List Nat)(fr0:List PV)(wr0:List Nat)(hl:a.length<1000000)(e1:fr0.length=52)(e2:nth fr0 0=aL a) :
  ∃ fr hp wr,aY (CC L) run k 2 (ah 2 jU) ⟨fr0,[],wr0⟩=some ⟨fr,hp,wr⟩∧fr.length=52∧nth fr 0=aL a∧nth fr 1=nth fr0 1∧nth fr 6 = .sc (.int .u32 (0:Nat))∧dB 0 hp [] (nth fr 5):=by
 have hO:∀ n,dB 0 [⟨.live,rep n [dg 0]⟩] [] (.own 0 1 0 0 false):=fun n=>⟨Nat.zero_le _,.inr ⟨0,List.replicate n 0,Nat.le_refl _,by simp,rfl,by rw[qD];rfl⟩⟩
 have hw:=bF a.length (by omega)
 have h1:a.length+1≤cI:=Nat.le_trans (show a.length+1≤1000000 by assumption) (by decide)
 simp[jU,ah,Tryz.f160,aY,e1,e2,af,aH,an,ao,aG,ag,ai,aj,ak,aC,az,FP.none,bc,ar,bd,au,bH,jo,iw,aa,ae,ab,bf,and_assoc,ca,uD,hw,s32,b32,z32,bS,h1,aM,hO]
theorem abb (L:Lst)(run:aq)(k:Nat)(fr:List PV)(hp:List Blk)(wr:List Nat)(a:List Nat)(h52:fr.length=52)(h0:nth fr 0=aL a) :
  ∃ fr',af (CC L) run k QY ⟨fr,hp,wr⟩=some (.normal,⟨fr',hp,wr⟩)∧fr'.length=52∧nth fr' 20=aL a∧nth fr' 21 = .sc (.int .i64 (a.length:Int))∧nth fr' 22 = .sc (.int .i64 (0:Nat))
   ∧ nth fr' 1=nth fr 1∧nth fr' 6=nth fr 6∧nth fr' 5=nth fr 5:=by
 simp[QY,jU,ah,seq1,Tryz.f160,af,aH,an,ao,aG,ag,ai,aj,ak,aC,az,FP.none,au,bH,aa,ae,ab,bf,ca,uD,h52,h0]
theorem LY (L:Lst)(run:aq)(k:Nat)(fr:List PV)(hp:List Blk)(wr:List Nat)(out:List Nat)(c:Nat)(hl:out.length<1000000)(h52:fr.length=52)(h6:nth fr 6 = .sc (.int .u32 (c:Int)))(hO:dB 0 hp out (nth fr 5)) :
  ∃ st p',af (CC L) run k (ah 5 jU) ⟨fr,hp,wr⟩=some (.ret,st)∧aZ TT st.fr st.hp Tryz.f160.results.toList=some [p']∧dB 0 st.hp (out++[c]) p':=by
 obtain⟨p',hp',fp,h7,h8,h9⟩:=hO.app c (by omega)
 simp[jU,ah,Tryz.f160,af,aH,an,ao,aG,ag,ai,aj,ak,aC,az,FP.none,au,aa,ae,ab,bf,aX,df,uD,h52,h6,s32,b32,z32,gH c,mz,mh,iZ,bS,h7,h8,aZ]
def yI:List PV→Option (List PV)
 | [p,q]=>match gN p,gN q with
  | some a,some b=>some [aL (cT (Nat.max a.length b.length+1) (val a+val b))]
  | _,_=>none
 | _=>none
theorem yG:Ab.Spec base.P 160 yI:=Ab.Spec.bL (C:=CC []) (cU trivial) fun args rs h=>by
 unfold yI at h
 split at h
 ·split at h
  ·rename_i a b ea eb
   obtain⟨rfl,ha,hla⟩:=dk ea
   obtain⟨rfl,hb,hlb⟩:=dk eb
   simp only[Option.some.injEq] at h
   subst h
   obtain⟨a',b',hab,hsum,hmax,ha',hb',hla',hle⟩:∃ a' b',((b.length≤a.length∧a'=a∧b'=b)∨(a.length<b.length∧a'=b∧b'=a))∧val a'+val b'=val a+val b∧a'.length=Nat.max a.length b.length∧Dok a'∧Dok b'∧a'.length<1000000∧b'.length≤a'.length:=by
    by_cases hx:b.length≤a.length
    ·exact⟨a,b,.inl ⟨hx,rfl,rfl⟩,rfl,(Nat.max_eq_left hx).symm,ha,hb,hla,hx⟩
    ·exact⟨b,a,.inr ⟨by omega,rfl,rfl⟩,Nat.add_comm _ _,(Nat.max_eq_right (by omega)).symm,hb,ha,hlb,by omega⟩
   obtain⟨fr0,wr0,h01,h02,h03,h04⟩:=LX [] (runK (CC []) (a'.length+1)) (a'.length+1) a b a' b' hab
   obtain⟨fr1,hp1,wr1,h1,h2,h3,h4,h5,h6⟩:=LV [] (runK (CC []) (a'.length+1)) (a'.length+1) a' fr0 wr0 hla' h02 h03
   obtain⟨fr2,g1,g2,g3,g4,g5,g6,g7,g8⟩:=abb [] (runK (CC []) (a'.length+1)) (a'.length+1) fr1 hp1 wr1 a' h2 h3
   obtain⟨fr3,hp3,wr3,out,c,q1,q2,q3,q4,q5,q6,q7,q8⟩:=yH [] (runK (CC []) (a'.length+1)) (a'.length+1) a' b' ha' hb' hla' a'.length 0 fr2 hp1 wr1 [] 0 (by simp) g2 g3 g4 g5 (by rw[g6,h4,h04]) (by rw[g7,h5]) (by rw[g8];exact h6) rfl Dok.nil (by omega) (by simp[val])
   obtain⟨st,p',e1,e2,e3⟩:=LY [] (runK (CC []) (a'.length+1)) (a'.length+1) fr3 hp3 wr3 out c (by omega) q2 q3 q4
   have hx:af (CC []) (runK (CC []) (a'.length+1)) (a'.length+1) jU ⟨entry 52 [aL a,aL b],[],[]⟩=some (.ret,st):=by
    rw[aO 2 h01,aO 2 h1,show ah 2 (ah 2 jU)=ah 4 jU from rfl,Gu,aw ((aw g1).trans (bE q1))]
    exact e1
   have hout:out++[c]=cT (Nat.max a.length b.length+1) (val a+val b):=by
    refine (q6.append (Dok.nil.cons (by omega))).ov (by simp[q5,hmax]) ?_
    rw[dw,q5,← hsum,Nat.mul_comm,q8,cq _ _ hle]
   obtain⟨rs2,ids,r1,r2⟩:=e3.GA
   rw[hout] at r2
   exact⟨a'.length+2,_,_,_,rs2,ids,aQ NK rfl hx e2,r1,r2⟩
  ·cases h
 ·cases h
noncomputable def lv:Code:=((Tryz.f161.body).bind aF).getD .skip
noncomputable def lu:Code:=Tryz.f161.body.getD .skip
theorem Mt (L:Lst)(run:aq)(k:Nat)(fr:List PV)(hp:List Blk)(wr:List Nat)(n:Nat)(h44:fr.length=44)
  (h14:nth fr 14 = .sc (.int .i64 (n:Int))) (h15:nth fr 15 = .sc (.int .i64 (n:Int))) :
  ∃ fr',af (CC L) run k lv ⟨fr,hp,wr⟩=some (.exit 0,⟨fr',hp,wr⟩)∧fr'.length=44∧nth fr' 5=nth fr 5:=by
 simp[lv,Tryz.f161,aF,af,aH,an,ao,aG,ag,ai,aj,ak,aC,az,FP.none,bc,ar,bd,aa,ae,ab,h44,h14,h15]
set_option maxHeartbeats 2000000 in
theorem Dc (L:Lst)(run:aq)(k:Nat)(fr:List PV)(hp:List Blk)(wr:List Nat)(a b out:List Nat)(i c c' d:Nat)(ha:Dok a)(hb:Dok b)(hc:c≤1)(hi:i<a.length)(hl:a.length<1000000)
  (h44:fr.length=44) (h13:nth fr 13=aL a) (h14:nth fr 14 = .sc (.int .i64 (a.length:Int))) (h15:nth fr 15 = .sc (.int .i64 (i:Int))) (h1:nth fr 1=aL b)
  (h6:nth fr 6 = .sc (.int .u32 (c:Int))) (hO:dB 0 hp out (nth fr 5)) (ho:out.length=i) (hs:(at0 a i<c+at0 b i∧c'=1∧d=at0 a i+1000000000 - (c+at0 b i))∨(c+at0 b i≤at0 a i∧c'=0∧d=at0 a i - (c+at0 b i))) :
  ∃ fr' hp' wr',af (CC L) run k lv ⟨fr,hp,wr⟩=some (.normal,⟨fr',hp',wr'⟩)∧fr'.length=44∧nth fr' 13=aL a∧nth fr' 14 = .sc (.int .i64 (a.length:Int))
   ∧ nth fr' 15 = .sc (.int .i64 ((i+1:Nat):Int))∧nth fr' 1=aL b∧nth fr' 6 = .sc (.int .u32 (c':Int))∧dB 0 hp' (out++[d]) (nth fr' 5):=by
 have hda:=eF a i hi
 have hax:=ha.get hi
 rw[cV hi] at hs
 generalize a[i]=x at *
 have e1:aL a = .imm a.length false (a.map dg):=rfl
 have e2:aL b = .imm b.length false (b.map dg):=rfl
 have hdx:dg x = .sc (.int .u32 (x:Int)):=rfl
 rw[e1] at h13 ⊢;rw[e2] at h1 ⊢;rw[hdx] at hda
 have hwi:=bF i (by omega)
 obtain⟨p',hp',fp,h7,h8,h9⟩:=hO.app d (ho ▸ Nat.lt_trans hi (Nat.lt_trans hl (by decide)))
 have hwx:bu .u32 ((x:Int)+1000000000)=((x+1000000000:Nat):Int):=di .u32 (x+1000000000) (ib (by omega))
 have hb9:=cf hb i
 obtain⟨x2,hx2⟩:∃ x2,x2=x+1000000000:=⟨_,rfl⟩
 rw[← hx2] at hwx hs
 by_cases hib:i<b.length
 ·have hdb:=eF b i hib
  rw[cV hib] at hs hb9
  generalize b[i]=y at *
  have hdy:dg y = .sc (.int .u32 (y:Int)):=rfl
  rw[hdy] at hdb
  obtain⟨s,hs1⟩:∃ s,s=c+y:=⟨_,rfl⟩
  have hw2:bu .u32 ((c:Int)+(y:Int))=(s:Int):=dm .u32 c y s hs1 (ib (by omega))
  rw[← hs1] at hs
  rcases hs with ⟨hlt,rfl,rfl⟩| ⟨hge,rfl,rfl⟩
  ·have hw4:bu .u32 ((x2:Int) - (s:Int))=((x2 - s:Nat):Int):=xH .u32 x2 s (x2 - s) (by omega) (ib (by omega))
   generalize x2 - s=d at *
   simp[lv,Tryz.f161,aF,af,aH,an,ao,aG,ag,ai,aj,ak,aC,az,FP.none,bc,ar,bd,au,bH,ba,bj,partOf,aa,ae,ab,bf,and_assoc,cL,aX,df,h44,h13,h14,h15,h1,h6,uD,s32,b32,z32,a32,hi,hib,hda,hdb,aU,hw2,hlt,hwx,hw4,hwi,gH d,mz,mh,iZ,bS,h7,h8]
  ·have hw4:bu .u32 ((x:Int) - (s:Int))=((x - s:Nat):Int):=xH .u32 x s (x - s) (by omega) (ib (by omega))
   have hnl : ¬ (x<s):=by omega
   generalize x - s=d at *
   simp[lv,Tryz.f161,aF,af,aH,an,ao,aG,ag,ai,aj,ak,aC,az,FP.none,bc,ar,bd,au,bH,ba,bj,partOf,aa,ae,ab,bf,and_assoc,cL,aX,df,h44,h13,h14,h15,h1,h6,uD,s32,b32,z32,a32,hi,hib,hda,hdb,aU,hw2,hnl,hw4,hwi,gH d,mz,mh,iZ,bS,h7,h8]
 ·rw[iu (Nat.le_of_not_lt hib)] at hs
  simp only[Nat.add_zero] at hs
  rcases hs with ⟨hlt,rfl,rfl⟩| ⟨hge,rfl,rfl⟩
  ·have hw4:bu .u32 ((x2:Int) - (c:Int))=((x2 - c:Nat):Int):=xH .u32 x2 c (x2 - c) (by omega) (ib (by omega))
   generalize x2 - c=d at *
   simp[lv,Tryz.f161,aF,af,aH,an,ao,aG,ag,ai,aj,ak,aC,az,FP.none,bc,ar,bd,au,bH,ba,bj,partOf,aa,ae,ab,bf,and_assoc,cL,aX,df,h44,h13,h14,h15,h1,h6,uD,s32,b32,z32,a32,hi,hib,hda,aU,hlt,hwx,hw4,hwi,gH d,mz,mh,iZ,bS,h7,h8]
  ·have hw4:bu .u32 ((x:Int) - (c:Int))=((x - c:Nat):Int):=xH .u32 x c (x - c) (by omega) (ib (by omega))
   have hnl : ¬ (x<c):=by omega
   generalize x - c=d at *
   simp[lv,Tryz.f161,aF,af,aH,an,ao,aG,ag,ai,aj,ak,aC,az,FP.none,bc,ar,bd,au,bH,ba,bj,partOf,aa,ae,ab,bf,and_assoc,cL,aX,df,h44,h13,h14,h15,h1,h6,uD,s32,b32,z32,a32,hi,hib,hda,aU,hnl,hw4,hwi,gH d,mz,mh,iZ,bS,h7,h8]
theorem GL {va vb vo x c c' y d P:Nat}(h:va+c*P=vo+vb)(hs:(x<c+y∧c'=1∧d=x+1000000000 - (c+y))∨(c+y≤x∧c'=0∧d=x - (c+y)))(hc:c+y≤x+1000000000) :
  va+x*P+c'*(P*1000000000)=vo+P*d+(vb+y*P):=by
 have e:x+c'*1000000000=d+c+y:=by omega
 have e2:(x+c'*1000000000)*P=(d+c+y)*P:=by rw[e]
 simp only[Nat.add_mul] at e2
 have e3:c'*1000000000*P=c'*(P*1000000000):=by grind
 have e4:d*P=P*d:=Nat.mul_comm _ _
 omega
theorem vO (L:Lst)(run:aq)(k:Nat)(a b:List Nat)(ha:Dok a)(hb:Dok b)(hl:a.length<1000000):∀ (n i:Nat) (fr:List PV) (hp:List Blk) (wr:List Nat) (out:List Nat) (c:Nat),i+n=a.length →
  fr.length=44→nth fr 13=aL a→nth fr 14 = .sc (.int .i64 (a.length:Int))→nth fr 15 = .sc (.int .i64 (i:Int))→nth fr 1=aL b→nth fr 6 = .sc (.int .u32 (c:Int))→dB 0 hp out (nth fr 5)→out.length=i →
  Dok out→c≤1→val (a.take i)+c*1000000000 ^ i=val out+val (b.take i) →
  ∃ (fr':List PV) (hp':List Blk) (wr':List Nat) (out':List Nat) (c':Nat),bX (af (CC L) run k lv) (n+1) ⟨fr,hp,wr⟩=some (.exit 0,⟨fr',hp',wr'⟩)∧fr'.length=44∧dB 0 hp' out' (nth fr' 5)∧out'.length=a.length
   ∧ Dok out'∧c'≤1∧val a+c'*1000000000 ^ a.length=val out'+val (b.take a.length)
 | 0,i,fr,hp,wr,out,c,hi,h44,h13,h14,h15,h1,h6,hO,ho,hd,hc,hv=>by
  have:i=a.length:=by omega
  subst this
  obtain⟨fr',g1,g2,g3⟩:=Mt L run k fr hp wr a.length h44 h14 h15
  exact⟨fr',hp,wr,out,c,bw g1,g2,by rw[g3];exact hO,ho,hd,hc,by rw[← hv,List.take_length]⟩
 | n+1,i,fr,hp,wr,out,c,hi,h44,h13,h14,h15,h1,h6,hO,ho,hd,hc,hv=>by
  have hx:=cf ha i
  have hy:=cf hb i
  obtain⟨c',d,hs,hc',hdd⟩:∃ c' d,((at0 a i<c+at0 b i∧c'=1∧d=at0 a i+1000000000 - (c+at0 b i))∨(c+at0 b i≤at0 a i∧c'=0∧d=at0 a i - (c+at0 b i)))∧c'≤1∧d<1000000000:=by
   by_cases h:at0 a i<c+at0 b i
   ·exact⟨1,_,.inl ⟨h,rfl,rfl⟩,by omega,by omega⟩
   ·exact⟨0,_,.inr ⟨by omega,rfl,rfl⟩,by omega,by omega⟩
  obtain⟨fr1,hp1,wr1,g1,g2,g3,g4,g5,g6,g7,g8⟩:=Dc L run k fr hp wr a b out i c c' d ha hb hc (by omega) hl h44 h13 h14 h15 h1 h6 hO ho hs
  obtain⟨fr',hp',wr',out',c2,q1,q2⟩:=vO L run k a b ha hb hl n (i+1) fr1 hp1 wr1 _ _ (by omega) g2 g3 g4 g5 g6 g7 g8 (by simp[ho]) (hd.append (Dok.nil.cons hdd)) hc'
   (by
    rw[ch,ch,dw,ho,Nat.pow_succ]
    exact GL hv hs (by omega))
  exact⟨fr',hp',wr',out',c2,by rw[bV g1];exact q1,q2⟩
noncomputable def GN:Code:=seq1 (seq1 (ah 3 lu))
theorem Db:ah 3 lu = .seq (.seq GN (.block 0 (.loop lv))) (ah 4 lu):=rfl
theorem Ms (L:Lst)(run:aq)(k:Nat)(a b:List Nat)(hl:a.length<1000000)(hne:a≠[]) :
  ∃ fr hp wr,aY (CC L) run k 3 lu ⟨entry 44 [aL a,aL b],[],[]⟩=some ⟨fr,hp,wr⟩∧fr.length=44∧nth fr 0=aL a∧nth fr 1=aL b∧nth fr 6 = .sc (.int .u32 (0:Nat))∧dB 0 hp [] (nth fr 5):=by
 obtain⟨e1,e2,e3⟩:=cA 42 (aL a) (aL b)
 generalize entry 44 [aL a,aL b]=fr0 at *
 have hO:∀ n,dB 0 [⟨.live,rep n [dg 0]⟩] [] (.own 0 1 0 0 false):=fun n=>⟨Nat.zero_le _,.inr ⟨0,List.replicate n 0,Nat.le_refl _,by simp,rfl,by rw[qD];rfl⟩⟩
 have h1:a.length≤cI:=Nat.le_trans (Nat.le_of_lt hl) (by decide)
 have h2:(0 == a.length)=false:=by
  have:=List.length_pos_iff.2 hne
  simp;omega
 simp[lu,Tryz.f161,aY,e1,e2,e3,af,aH,an,ao,aG,ag,ai,aj,ak,aC,az,FP.none,au,bH,bj,jo,aa,ae,ab,bf,and_assoc,ca,uD,s32,b32,z32,bS,h1,h2,aM,hO]
theorem XL (L:Lst)(run:aq)(k:Nat)(fr:List PV)(hp:List Blk)(wr:List Nat)(a:List Nat)(h44:fr.length=44)(h0:nth fr 0=aL a) :
  ∃ fr',af (CC L) run k GN ⟨fr,hp,wr⟩=some (.normal,⟨fr',hp,wr⟩)∧fr'.length=44∧nth fr' 13=aL a∧nth fr' 14 = .sc (.int .i64 (a.length:Int))∧nth fr' 15 = .sc (.int .i64 (0:Nat))
   ∧ nth fr' 1=nth fr 1∧nth fr' 6=nth fr 6∧nth fr' 5=nth fr 5:=by
 simp[GN,lu,ah,seq1,Tryz.f161,af,aH,an,ao,aG,ag,ai,aj,ak,aC,az,FP.none,au,bH,aa,ae,ab,bf,ca,uD,h44,h0]
theorem GM (L:Lst)(run:aq)(k:Nat)(fr:List PV)(hp:List Blk)(wr:List Nat)(h44:fr.length=44) :
  ∃ st,af (CC L) run k (ah 4 lu) ⟨fr,hp,wr⟩=some (.ret,st)∧aZ TT st.fr st.hp Tryz.f161.results.toList=some [nth fr 5]∧st.hp=hp:=by
 simp[lu,ah,Tryz.f161,af,aH,an,ao,aG,ag,ai,aj,ak,aC,az,FP.none,aa,ab,h44,aZ]
def qX:List PV→Option (List PV)
 | [p,q]=>match gN p,gN q with
  | some a,some b=>bif Nat.ble (val b) (val a) && Nat.ble b.length a.length && !(a.length.beq 0) then some [aL (cT a.length (val a - val b))] else none
  | _,_=>none
 | _=>none
theorem vN:Ab.Spec base.P 161 qX:=Ab.Spec.bL (C:=CC []) (cU trivial) fun args rs h=>by
 unfold qX at h
 split at h
 ·split at h
  ·rename_i a b ea eb
   obtain⟨rfl,ha,hla⟩:=dk ea
   obtain⟨rfl,hb,hlb⟩:=dk eb
   cases hc:Nat.ble (val b) (val a) && Nat.ble b.length a.length && !(a.length.beq 0) with
   | false=>rw[hc] at h;cases h
   | true =>
    rw[hc] at h
    simp only[cond_true,Option.some.injEq] at h
    subst h
    simp only[Bool.and_eq_true,Nat.ble_eq,Bool.not_eq_true'] at hc
    obtain⟨⟨hle,hlen⟩,hne⟩:=hc
    have hne':a≠[]:=by intro e;subst e;simp at hne
    obtain⟨fr1,hp1,wr1,h1,h2,h3,h4,h5,h6⟩:=Ms [] (runK (CC []) (a.length+1)) (a.length+1) a b hla hne'
    obtain⟨fr2,g1,g2,g3,g4,g5,g6,g7,g8⟩:=XL [] (runK (CC []) (a.length+1)) (a.length+1) fr1 hp1 wr1 a h2 h3
    obtain⟨fr3,hp3,wr3,out,c,q1,q2,q3,q4,q5,q6,q7⟩:=vO [] (runK (CC []) (a.length+1)) (a.length+1) a b ha hb hla a.length 0 fr2 hp1 wr1 [] 0 (by simp) g2 g3 g4 g5 (by rw[g6,h4]) (by rw[g7,h5]) (by rw[g8];exact h6) rfl Dok.nil (by omega) (by simp[val])
    obtain⟨st,e1,e2,e3⟩:=GM [] (runK (CC []) (a.length+1)) (a.length+1) fr3 hp3 wr3 q2
    have hx:af (CC []) (runK (CC []) (a.length+1)) (a.length+1) lu ⟨entry 44 [aL a,aL b],[],[]⟩=some (.ret,st):=by
     rw[aO 3 h1,Db,aw ((aw g1).trans (bE q1))]
     exact e1
    have hout:out=cT a.length (val a - val b):=by
     refine q5.ov q4 ?_
     rw[cq _ _ hlen] at q7
     have hb1:=eG q5
     rw[q4] at hb1
     have:c=0∨c=1:=by omega
     rcases this with rfl | rfl <;> omega
    obtain⟨rs2,ids,r1,r2⟩:=q3.GA
    rw[hout] at r2
    rw[← e3] at r1
    exact⟨a.length+2,_,_,_,rs2,ids,aQ HX rfl hx e2,r1,r2⟩
  ·cases h
 ·cases h
theorem bp {L:Lst}{g:Nat}{f:List PV→Option (List PV)}(hs:base.shared g=false)(ho:bt L g=fun a=>f (aJ a))(run:aq)(dr:Bool)(hp:List Blk)(args rs:List PV)
  (h1:bm (snap hp bh) args=some (args,[])) (h2:aJ args=args) (h3:f args=some rs):bU (CC L) run dr hp g args=some (gr rs,hp,⟨[],[],false,false⟩):=by
 have h4:(CC L).orc g args=some rs:=by
  show bt L g args=_
  rw[ho];show f (aJ args)=_;rw[h2,h3]
 by_cases h:rs.all du=true
 ·exact jv hs h1 h4 h
 ·exact dW hs h1 h4 (by simpa using h)
theorem lK (hp:List Blk)(a b:List Nat):bm (snap hp bh) [aL a,aL b]=some ([aL a,aL b],[]):=rfl
theorem JI (hp:List Blk)(n:Bool)(a:List Nat):bm (snap hp bh) [.sc (.bool n),aL a]=some ([.sc (.bool n),aL a],[]):=rfl
theorem lJ (hp:List Blk)(a:Int):bm (snap hp bh) [bk a]=some ([bk a],[]):=rfl
theorem gj (hp:List Blk)(a b:Int):bm (snap hp bh) [bk a,bk b]=some ([bk a,bk b],[]):=rfl
theorem jG (a b:List Nat):aJ [aL a,aL b]=[aL a,aL b]:=by simp only[aJ,fw]
theorem Ea (n:Bool)(a:List Nat):aJ [.sc (.bool n),aL a]=[.sc (.bool n),aL a]:=by simp only[aJ,fw,canon]
theorem jm (a:Int):aJ [bk a]=[bk a]:=by simp only[aJ,wR]
theorem fg (a b:Int):aJ [bk a,bk b]=[bk a,bk b]:=by simp only[aJ,wR]
def Sm (z:Int):Prop:=(aA z.natAbs).length<400000
theorem Sm.lt {z:Int}(h:Sm z):(aA z.natAbs).length<1000000:=Nat.lt_trans h (by decide)
theorem dJ {p:PV}{z:Int}(h:fC p=some z):p=bk z∧Sm z:=Hk h
theorem cC {z:Int}(h:Sm z):fC (bk z)=some z:=M7 z h
theorem KC (L:Lst)(run:aq)(k:Nat)(z:Int) :
  ∃ st,af (CC L) run k (Tryz.f101.body.getD .skip) ⟨entry 11 [bk z],[],[]⟩=some (.ret,st)∧aZ TT st.fr st.hp Tryz.f101.results.toList=some [Ab.bC z.sign]:=by
 obtain⟨e1,e2⟩:=cP 10 (bk z)
 generalize entry 11 [bk z]=fr0 at *
 cases z with
 | ofNat n =>
  cases n with
  | zero =>
   have e3:bk (Int.ofNat 0) = .agg [.sc (.bool false),aL []]:=rfl
   rw[e3] at e2
   simp[Tryz.f101,e1,e2,af,aH,an,ao,aG,ag,ai,aj,ak,aC,az,FP.none,bc,ar,bd,au,bH,bG,partOf,aa,ae,ab,bf,ca,bg,uD,uW,sD,aD,wf0,wf1,aM,aU,aV,bn,aZ,Ab.bC]
  | succ n =>
   have h0:=cN.2 (Nat.succ_ne_zero n)
   have e3:bk (Int.ofNat (n+1)) = .agg [.sc (.bool false),aL (aA (n+1))]:=rfl
   rw[e3] at e2
   have e4:(Int.ofNat (n+1)).sign=1:=rfl
   rw[e4]
   generalize aA (n+1)=l at *
   have h1:((l.length:Int) == 0)=false:=by simp;intro h;subst h;simp at h0
   have h2:l≠[]:=by intro h;subst h;simp at h0
   simp[Tryz.f101,e1,e2,af,aH,an,ao,aG,ag,ai,aj,ak,aC,az,FP.none,bc,ar,bd,au,bH,bG,partOf,aa,ae,ab,bf,ca,bg,uD,uW,sD,sB,aD,aB,wf0,wf1,aM,aU,aV,bn,aZ,Ab.bC,h1]
 | negSucc n =>
   have h0:=cN.2 (Nat.succ_ne_zero n)
   have e3:bk (Int.negSucc n) = .agg [.sc (.bool true),aL (aA (n+1))]:=rfl
   rw[e3] at e2
   have e4:(Int.negSucc n).sign = -1:=rfl
   rw[e4]
   generalize aA (n+1)=l at *
   have h1:((l.length:Int) == 0)=false:=by simp;intro h;subst h;simp at h0
   have h2:l≠[]:=by intro h;subst h;simp at h0
   simp[Tryz.f101,e1,e2,af,aH,an,ao,aG,ag,ai,aj,ak,aC,az,FP.none,bc,ar,bd,au,bH,bG,partOf,aa,ae,ab,bf,ca,bg,uD,uW,sD,sB,aD,aB,wf0,wf1,aM,aU,aV,bn,aZ,Ab.bC,h1]
def jc:List PV→Option (List PV)
 | [p]=>match fC p with
  | some z=>some [Ab.bC z.sign]
  | none=>none
 | _=>none
theorem kz:Ab.Spec base.P 101 jc:=Ab.Spec.bL (C:=CC []) (cU trivial) fun args rs h=>by
 unfold jc at h
 split at h
 ·split at h
  ·rename_i z hz
   obtain⟨rfl,-⟩:=dJ hz
   simp only[Option.some.injEq] at h
   subst h
   obtain⟨st,e1,e2⟩:=KC [] (runK (CC []) 1) 1 z
   exact⟨2,_,_,_,_,_,aQ NN rfl e1 e2,eB _ _,Wk.refl rfl,trivial⟩
  ·cases h
 ·cases h
noncomputable def L1:Lst:=[(167,jb),(152,fH),(160,yI),(161,qX),(146,o9)]
theorem JN:dK base.P L1:=⟨jt,jL,yG,vN,qo,trivial⟩
theorem Mn:bt L1 152=fun a=>fH (aJ a):=rfl
theorem Xt:bt L1 160=fun a=>yI (aJ a):=rfl
theorem RJ:bt L1 161=fun a=>qX (aJ a):=rfl
theorem Xs:bt L1 146=fun a=>o9 (aJ a):=rfl
theorem j0 (run:aq)(dr:Bool)(hp:List Blk)(n:Bool)(l:List Nat)(hd:Dok l)(hl:l.length<1000000) :
  bU (CC L1) run dr hp 152 [.sc (.bool n),aL l]=some (bk (sgn n (val l)),hp,⟨[],[],false,false⟩) :=
 bp m7 Mn run dr hp _ [bk (sgn n (val l))] (JI hp n l) (Ea n l) (by simp only[fH,cR hd hl])
theorem Nk (run:aq)(dr:Bool)(hp:List Blk)(a b:List Nat)(ha:Dok a)(hla:a.length<1000000)(hb:Dok b)(hlb:b.length<1000000) :
  bU (CC L1) run dr hp 160 [aL a,aL b]=some (aL (cT (Nat.max a.length b.length+1) (val a+val b)),hp,⟨[],[],false,false⟩) :=
 bp VJ Xt run dr hp _ [aL (cT (Nat.max a.length b.length+1) (val a+val b))] (lK hp a b) (jG a b) (by simp only[yI,cR ha hla,cR hb hlb])
theorem wV (run:aq)(dr:Bool)(hp:List Blk)(a b:List Nat)(ha:Dok a)(hla:a.length<1000000)(hb:Dok b)(hlb:b.length<1000000)(h:val b≤val a)(h':b.length≤a.length)(h0:a.length≠0) :
  bU (CC L1) run dr hp 161 [aL a,aL b]=some (aL (cT a.length (val a - val b)),hp,⟨[],[],false,false⟩) :=
 bp OJ RJ run dr hp _ [aL (cT a.length (val a - val b))] (lK hp a b) (jG a b) (by
  have h1:Nat.ble (val b) (val a)=true:=by rw[Nat.ble_eq];exact h
  have h2:Nat.ble b.length a.length=true:=by rw[Nat.ble_eq];exact h'
  have h3:a.length.beq 0=false:=by
   cases e:a.length with
   | zero=>exact absurd e h0
   | succ n=>rfl
  simp[qX,cR ha hla,cR hb hlb,h1,h2,h3])
theorem nH (run:aq)(dr:Bool)(hp:List Blk)(a b:List Nat)(ha:Dok a)(hla:a.length<1000000)(hb:Dok b)(hlb:b.length<1000000) :
  bU (CC L1) run dr hp 146 [aL a,aL b]=some (Ab.bC (nQ a b),hp,⟨[],[],false,false⟩) :=
 bp Iv Xs run dr hp _ [Ab.bC (nQ a b)] (lK hp a b) (jG a b) (by simp only[o9,cR ha hla,cR hb hlb])
theorem RP (run:aq)(k:Nat)(n:Bool)(l:List Nat)(hd:Dok l)(hl:l.length<1000000) :
  ∃ st,af (CC L1) run k (Tryz.f149.body.getD .skip) ⟨entry 9 [wh n l],[],[]⟩=some (.ret,st)∧aZ TT st.fr st.hp Tryz.f149.results.toList=some [bk (sgn (!n) (val l))]:=by
 have hc:=fun hp dr=>j0 run dr hp (!n) l hd hl
 obtain⟨e1,e2⟩:=cP 8 (wh n l)
 generalize entry 9 [wh n l]=fr0 at *
 have e3:wh n l = .agg [.sc (.bool n),aL l]:=rfl
 have e4:bk (sgn (!n) (val l)) = .agg [.sc (.bool (bq (sgn (!n) (val l)))),aL (aA (sgn (!n) (val l)).natAbs)]:=rfl
 rw[e3] at e2
 rw[e4] at hc ⊢
 generalize aA (sgn (!n) (val l)).natAbs=m at *
 generalize bq (sgn (!n) (val l))=nn at *
 simp[Tryz.f149,e1,e2,af,aH,an,ao,aG,ag,ai,aP,aj,ak,aC,az,FP.none,bG,partOf,unP,aa,ae,ab,bf,bg,bO,bx,aX,hc,uW,sD,sB,sW,aD,aB,aW,zW,wf0,wf1,aM,aU,aV,bP,bZ,bA,bn,aZ]
theorem aaH (z:Int):sgn (bq z) z.natAbs=z:=by
 cases z with
 | ofNat n=>rfl
 | negSucc n=>rfl
theorem VX (z:Int):sgn (!bq z) z.natAbs = -z:=by
 cases z with
 | ofNat n=>show Int.negOfNat n = -(Int.ofNat n);cases n <;> rfl
 | negSucc n=>rfl
def td:List PV→Option (List PV)
 | [p]=>match fC p with
  | some z=>some [bk (-z)]
  | none=>none
 | _=>none
theorem pA:Ab.Spec base.P 149 td:=Ab.Spec.bL (C:=CC L1) (cU JN) fun args rs h=>by
 unfold td at h
 split at h
 ·split at h
  ·rename_i z hz
   obtain⟨rfl,hs⟩:=dJ hz
   simp only[Option.some.injEq] at h
   subst h
   obtain⟨st,e1,e2⟩:=RP (runK (CC L1) 1) 1 (bq z) (aA z.natAbs) (bM _) hs.lt
   rw[bN,VX] at e2
   exact⟨2,_,_,_,_,_,aQ UP rfl e1 e2,iL _ _,Wk.refl rfl,trivial⟩
  ·cases h
 ·cases h
noncomputable def HD:Code:=Tryz.f139.body.getD .skip
theorem whW (z:Int):bk z = .agg [.sc (.bool (bq z)),aL (aA z.natAbs)]:=rfl
set_option maxHeartbeats 1000000 in
theorem ND (run:aq)(k:Nat)(n:Bool)(a b:List Nat)(ha:Dok a)(hla:a.length<400000)(hb:Dok b)(hlb:b.length<400000) :
  ∃ st,af (CC L1) run k HD ⟨entry 42 [wh n a,wh n b],[],[]⟩=some (.ret,st)∧aZ TT st.fr st.hp Tryz.f139.results.toList=some [bk (sgn n (val a+val b))]:=by
 have hm:Nat.max a.length b.length≤400000:=Nat.max_le.2 ⟨by omega,by omega⟩
 have hv:val (cT (Nat.max a.length b.length+1) (val a+val b))=val a+val b:=fc _ _ (by
  have h1:=eG ha
  have h2:=eG hb
  have h3:=Nat.pow_le_pow_right (n:=1000000000) (by omega) (Nat.le_max_left a.length b.length)
  have h4:=Nat.pow_le_pow_right (n:=1000000000) (by omega) (Nat.le_max_right a.length b.length)
  have h5:a.length.max b.length=max a.length b.length:=rfl
  rw[h5,Nat.pow_succ];omega)
 have hc:=fun hp dr=>Nk run dr hp a b ha (by omega) hb (by omega)
 have hc2:=fun hp dr=>j0 run dr hp n (cT (Nat.max a.length b.length+1) (val a+val b)) (fY _ _) (by rw[de];omega)
 rw[hv] at hc2
 generalize cT (Nat.max a.length b.length+1) (val a+val b)=m at *
 obtain⟨e1,e2,e3⟩:=cA 40 (wh n a) (wh n b)
 generalize entry 42 [wh n a,wh n b]=fr0 at *
 have e4:∀ l,wh n l = .agg [.sc (.bool n),aL l]:=fun _=>rfl
 rw[e4] at e2 e3
 simp only[whW] at hc2 ⊢
 generalize aA (sgn n (val a+val b)).natAbs=r at *
 generalize bq (sgn n (val a+val b))=nn at *
 simp[HD,Tryz.f139,e1,e2,e3,af,aH,an,ao,aG,ag,ai,aP,aj,ak,aC,az,FP.none,bc,dz,bG,partOf,aa,ae,ab,bf,bg,bO,bx,aX,hc,hc2,uB,uW,sD,sB,sW,aD,aB,aW,zW,wf0,wf1,aM,aU,aV,bP,bZ,bA,bn,aZ,number,FP.free,cB,FP.apart]
theorem kV (x y:Nat):nQ (aA x) (aA y)=dH x y:=by
 unfold nQ
 by_cases h1:(aA x).length<(aA y).length
 ·rw[if_pos h1,dH,if_pos]
  exact Nat.lt_of_not_le fun h=>absurd (cn h) (by omega)
 ·rw[if_neg h1]
  by_cases h2:(aA y).length<(aA x).length
  ·have h3:y<x:=Nat.lt_of_not_le fun h=>absurd (cn h) (by omega)
   rw[if_pos h2,dH,if_neg (by omega),if_neg (by omega)]
  ·rw[if_neg h2,bN,bN]
set_option maxHeartbeats 1000000 in
theorem NC (run:aq)(k:Nat)(n:Bool)(x y:Nat)(hla:(aA x).length<400000)(hlb:(aA y).length<400000)(hxy:x<y) :
  ∃ st,af (CC L1) run k HD ⟨entry 42 [wh n (aA x),wh (!n) (aA y)],[],[]⟩=some (.ret,st)∧aZ TT st.fr st.hp Tryz.f139.results.toList=some [bk (sgn (!n) (y - x))]:=by
 have hv:val (cT (aA y).length (y - x))=y - x:=fc _ _ (Nat.lt_of_le_of_lt (Nat.sub_le _ _) (fq y))
 have hy0:(aA y).length≠0:=by
  have:=(cN (n:=y)).2 (by omega)
  omega
 have hc0:=fun hp dr=>nH run dr hp (aA x) (aA y) (bM _) (by omega) (bM _) (by omega)
 rw[kV,dH,if_pos hxy] at hc0
 have hc:=fun hp dr=>wV run dr hp (aA y) (aA x) (bM _) (by omega) (bM _) (by omega) (by rw[bN,bN];omega) (cn (Nat.le_of_lt hxy)) hy0
 rw[bN,bN] at hc
 have hc2:=fun hp dr=>j0 run dr hp (!n) (cT (aA y).length (y - x)) (fY _ _) (by rw[de];omega)
 rw[hv] at hc2
 generalize cT (aA y).length (y - x)=m at *
 obtain⟨e1,e2,e3⟩:=cA 40 (wh n (aA x)) (wh (!n) (aA y))
 generalize entry 42 [wh n (aA x),wh (!n) (aA y)]=fr0 at *
 have e4:∀ n l,wh n l = .agg [.sc (.bool n),aL l]:=fun _ _=>rfl
 rw[e4] at e2 e3
 simp only[whW] at hc2 ⊢
 generalize aA (sgn (!n) (y - x)).natAbs=r at *
 generalize bq (sgn (!n) (y - x))=nn at *
 have hnn:(n == !n)=false:=by cases n <;> rfl
 simp only[Ab.bC] at hc0
 simp[HD,Tryz.f139,e1,e2,e3,af,aH,an,ao,aG,ag,ai,aP,aj,ak,aC,az,FP.none,bc,ar,bd,dz,au,bG,partOf,aa,ae,ab,bf,bg,bO,bx,aX,hc,hc0,hc2,hnn,uB,uW,sD,sB,sW,aD,aB,aW,zW,wf0,wf1,aM,aU,aV,bP,bZ,bA,bn,aZ,number,FP.free,cB,FP.apart]
set_option maxHeartbeats 1000000 in
theorem NB (run:aq)(k:Nat)(n:Bool)(x y:Nat)(hla:(aA x).length<400000)(hlb:(aA y).length<400000)(hxy:y≤x)(hx:x≠0) :
  ∃ st,af (CC L1) run k HD ⟨entry 42 [wh n (aA x),wh (!n) (aA y)],[],[]⟩=some (.ret,st)∧aZ TT st.fr st.hp Tryz.f139.results.toList=some [bk (sgn n (x - y))]:=by
 have hv:val (cT (aA x).length (x - y))=x - y:=fc _ _ (Nat.lt_of_le_of_lt (Nat.sub_le _ _) (fq x))
 have hx0:(aA x).length≠0:=by
  have:=(cN (n:=x)).2 (by omega)
  omega
 have hc0:=fun hp dr=>nH run dr hp (aA x) (aA y) (bM _) (by omega) (bM _) (by omega)
 have hcz:decide (dH x y<0)=false:=by
  apply decide_eq_false
  unfold dH
  rw[if_neg (by omega)]
  by_cases h:x=y
  ·rw[if_pos h];omega
  ·rw[if_neg h];omega
 have hcz' : ¬ (dH x y<0):=by simpa using hcz
 rw[kV] at hc0
 have hc:=fun hp dr=>wV run dr hp (aA x) (aA y) (bM _) (by omega) (bM _) (by omega) (by rw[bN,bN];omega) (cn hxy) hx0
 rw[bN,bN] at hc
 have hc2:=fun hp dr=>j0 run dr hp n (cT (aA x).length (x - y)) (fY _ _) (by rw[de];omega)
 rw[hv] at hc2
 generalize cT (aA x).length (x - y)=m at *
 obtain⟨e1,e2,e3⟩:=cA 40 (wh n (aA x)) (wh (!n) (aA y))
 generalize entry 42 [wh n (aA x),wh (!n) (aA y)]=fr0 at *
 have e4:∀ n l,wh n l = .agg [.sc (.bool n),aL l]:=fun _ _=>rfl
 rw[e4] at e2 e3
 simp only[whW] at hc2 ⊢
 generalize aA (sgn n (x - y)).natAbs=r at *
 generalize bq (sgn n (x - y))=nn at *
 have hnn:(n == !n)=false:=by cases n <;> rfl
 simp only[Ab.bC] at hc0
 generalize dH x y=cc at *
 simp[HD,Tryz.f139,e1,e2,e3,af,aH,an,ao,aG,ag,ai,aP,aj,ak,aC,az,FP.none,bc,ar,bd,dz,au,bG,partOf,aa,ae,ab,bf,bg,bO,bx,aX,hc,hc0,hc2,hnn,hcz',uB,uW,sD,sB,sW,aD,aB,aW,zW,wf0,wf1,aM,aU,aV,bP,bZ,bA,bn,aZ,number,FP.free,cB,FP.apart]
theorem qv (n:Bool)(v:Nat):sgn n v=if n=true then -(v:Int) else (v:Int):=by
 cases n with
 | false=>rfl
 | true =>
  show Int.negOfNat v=_
  cases v <;> rfl
theorem VZ {x y:Int}(h:bq x=bq y):sgn (bq x) (x.natAbs+y.natAbs)=x+y:=by
 rw[qv]
 rw[cF,cF] at h
 rw[cF]
 by_cases hx:x<0 <;> by_cases hy:y<0 <;> simp[hx,hy] at h ⊢ <;> omega
theorem O0 {x y:Int}(h : ¬ bq x=bq y)(hl:x.natAbs<y.natAbs):sgn (!bq x) (y.natAbs - x.natAbs)=x+y:=by
 rw[qv]
 rw[cF,cF] at h
 rw[cF]
 by_cases hx:x<0 <;> by_cases hy:y<0 <;> simp[hx,hy] at h ⊢ <;> omega
theorem OZ {x y:Int}(h : ¬ bq x=bq y)(hl:y.natAbs≤x.natAbs):sgn (bq x) (x.natAbs - y.natAbs)=x+y:=by
 rw[qv]
 rw[cF,cF] at h
 rw[cF]
 by_cases hx:x<0 <;> by_cases hy:y<0 <;> simp[hx,hy] at h ⊢ <;> omega
theorem Uv (run:aq)(k:Nat)(x y:Int)(hx:Sm x)(hy:Sm y) :
  ∃ st,af (CC L1) run k HD ⟨entry 42 [bk x,bk y],[],[]⟩=some (.ret,st)∧aZ TT st.fr st.hp Tryz.f139.results.toList=some [bk (x+y)]:=by
 by_cases hn:bq x=bq y
 ·have:=ND run k (bq x) (aA x.natAbs) (aA y.natAbs) (bM _) hx (bM _) hy
  rw[bN,bN] at this
  rw[VZ hn] at this
  simp only[bk]
  rw[← hn];exact this
 ·have hn':bq y = !bq x:=by
   revert hn;cases bq x <;> cases bq y <;> simp
  by_cases hxy:x.natAbs<y.natAbs
  ·have:=NC run k (bq x) x.natAbs y.natAbs hx hy hxy
   rw[O0 hn hxy] at this
   simp only[bk]
   rw[hn'];exact this
  ·have hx0:x.natAbs≠0:=by
    intro h0
    have:y.natAbs=0:=by omega
    have hx:x=0:=by omega
    have hy:y=0:=by omega
    subst hx;subst hy
    exact hn rfl
   have:=NB run k (bq x) x.natAbs y.natAbs hx hy (by omega) hx0
   rw[OZ hn (by omega)] at this
   simp only[bk]
   rw[hn'];exact this
def tl:List PV→Option (List PV)
 | [p,q]=>match fC p,fC q with
  | some x,some y=>some [bk (x+y)]
  | _,_=>none
 | _=>none
theorem pZ:Ab.Spec base.P 139 tl:=Ab.Spec.bL (C:=CC L1) (cU JN) fun args rs h=>by
 unfold tl at h
 split at h
 ·split at h
  ·rename_i x y ex ey
   obtain⟨rfl,hx⟩:=dJ ex
   obtain⟨rfl,hy⟩:=dJ ey
   simp only[Option.some.injEq] at h
   subst h
   obtain⟨st,e1,e2⟩:=Uv (runK (CC L1) 1) 1 x y hx hy
   exact⟨2,_,_,_,_,_,aQ UU rfl e1 e2,iL _ _,Wk.refl rfl,trivial⟩
  ·cases h
 ·cases h
end Go.Proofs.YtjdmodeenbdfpaaGreat
