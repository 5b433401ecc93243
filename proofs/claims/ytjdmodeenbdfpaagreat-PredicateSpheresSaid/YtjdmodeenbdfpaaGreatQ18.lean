/- Contracts of num's integers, part 18 of the proof; each lemma states its own conditions. -/
import Derived.Test.YtjdmodeenbdfpaaGreatQ17
set_option linter.unusedSimpArgs false
set_option linter.unusedVariables false
namespace Go.Proofs.YtjdmodeenbdfpaaGreat
open Go Go.Ab
theorem mM (n:Nat):eY TT 68 1 [(0,dg n)]=some (1,[dg n]):=SX uD s32 z32 n
noncomputable def vL:Code:=((Tryz.f160.body).bind aF).getD .skip
noncomputable def kb:Code:=Tryz.f160.body.getD .skip
theorem RJ (L:Lst)(run:aq)(k:Nat)(fr:List PV)(hp:List Blk)(wr:List Nat)(n:Nat)(h52:fr.length=52)
  (h21:nth fr 21 = .sc (.int .i64 (n:Int))) (h22:nth fr 22 = .sc (.int .i64 (n:Int))) :
  ∃ fr',af (CC L) run k vL ⟨fr,hp,wr⟩=some (.exit 0,⟨fr',hp,wr⟩)∧fr'.length=52∧nth fr' 5=nth fr 5∧nth fr' 6=nth fr 6:=by
 simp[vL,Tryz.f160,aF,af,aH,an,ao,aG,ag,ai,aj,ak,aC,az,FP.none,aY,au,bf,aa,ae,ab,h52,h21,h22]
set_option maxHeartbeats 2000000 in
theorem GY (L:Lst)(run:aq)(k:Nat)(fr:List PV)(hp:List Blk)(wr:List Nat)(a b out:List Nat)(i c s:Nat)(ha:Dok a)(hb:Dok b)(hc:c≤1)(hi:i<a.length)(hl:a.length<1000000)
  (h52:fr.length=52) (h20:nth fr 20=aL a) (h21:nth fr 21 = .sc (.int .i64 (a.length:Int))) (h22:nth fr 22 = .sc (.int .i64 (i:Int))) (h1:nth fr 1=aL b)
  (h6:nth fr 6 = .sc (.int .u32 (c:Int))) (hO:dE 0 hp out (nth fr 5)) (ho:out.length=i) (hs:s=at0 a i+c+at0 b i) :
  ∃ fr' hp' wr',af (CC L) run k vL ⟨fr,hp,wr⟩=some (.normal,⟨fr',hp',wr'⟩)∧fr'.length=52∧nth fr' 20=aL a∧nth fr' 21 = .sc (.int .i64 (a.length:Int))
   ∧ nth fr' 22 = .sc (.int .i64 ((i+1:Nat):Int))∧nth fr' 1=aL b∧nth fr' 6 = .sc (.int .u32 ((s / 1000000000:Nat):Int))∧dE 0 hp' (out++[s % 1000000000]) (nth fr' 5):=by
 have hda:=eK a i hi
 have hax:=ha.get hi
 rw[cY hi] at hs
 generalize a[i]=x at *
 have e1:aL a = .imm a.length false (a.map dg):=rfl
 have e2:aL b = .imm b.length false (b.map dg):=rfl
 have hdx:dg x = .sc (.int .u32 (x:Int)):=rfl
 rw[e1] at h20 ⊢;rw[e2] at h1 ⊢;rw[hdx] at hda
 obtain⟨s1,hs1⟩:∃ s1,s1=x+c:=⟨_,rfl⟩
 have hw1:bA .u32 ((x:Int)+(c:Int))=(s1:Int):=dq .u32 x c s1 hs1 (im (by omega))
 have hwi:=bJ i (by omega)
 have hb9:=cj hb i
 obtain⟨q,hq⟩:∃ q,q=s / 1000000000:=⟨_,rfl⟩
 obtain⟨r,hr⟩:∃ r,r=s % 1000000000:=⟨_,rfl⟩
 have hw3:bA .u32 ((s:Int) / 1000000000)=(q:Int):=ji .u32 s q hq (im (by omega))
 obtain⟨p',hp',fp,h7,h8,h9⟩:=hO.app r (ho ▸ Nat.lt_trans hi (Nat.lt_trans hl (by decide)))
 rw[← hq,← hr]
 by_cases hib:i<b.length
 ·have hdb:=eK b i hib
  rw[cY hib] at hs hb9
  generalize b[i]=y at *
  have hdy:dg y = .sc (.int .u32 (y:Int)):=rfl
  rw[hdy] at hdb
  have hw2:bA .u32 ((s1:Int)+(y:Int))=(s:Int):=dq .u32 s1 y s (by omega) (im (by omega))
  have hw4:((s:Int).tmod 1000000000)=(r:Int):=kK s r hr
  simp[vL,Tryz.f160,aF,af,aH,an,ao,aG,ag,ai,aj,ak,aC,az,FP.none,aY,au,bf,av,bK,bg,bk,partOf,aa,ae,ab,bh,and_assoc,cN,bc,dj,h52,h20,h21,h22,h1,h6,uD,s32,b32,z32,a32,hi,hib,hda,hdb,aU,hw1,hw2,hw3,hw4,hwi,gM r,mM,mv,jk,bZ,h7,h8]
 ·rw[iE (Nat.le_of_not_lt hib)] at hs
  have:s1=s:=by omega
  subst this
  have hw4:((s1:Int).tmod 1000000000)=(r:Int):=kK s1 r hr
  simp[vL,Tryz.f160,aF,af,aH,an,ao,aG,ag,ai,aj,ak,aC,az,FP.none,aY,au,bf,av,bK,bg,bk,partOf,aa,ae,ab,bh,and_assoc,cN,bc,dj,h52,h20,h21,h22,h1,h6,uD,s32,b32,z32,a32,hi,hib,hda,aU,hw1,hw3,hw4,hwi,gM r,mM,mv,jk,bZ,h7,h8]
theorem Mz {va vb vo x c y P s q r:Nat}(h:vo+c*P=va+vb)(hs:s=x+c+y)(hq:q=s / 1000000000)(hr:r=s % 1000000000) :
  vo+P*r+q*(P*1000000000)=va+x*P+(vb+y*P):=by
 have e:s=r+1000000000*q:=by omega
 have e2:s*P=(r+1000000000*q)*P:=by rw[e]
 subst hs
 simp only[Nat.add_mul] at e2 ⊢
 have e3:1000000000*q*P=q*(P*1000000000):=by grind
 have e4:r*P=P*r:=Nat.mul_comm _ _
 omega
theorem y0 (L:Lst)(run:aq)(k:Nat)(a b:List Nat)(ha:Dok a)(hb:Dok b)(hl:a.length<1000000):∀ (n i:Nat) (fr:List PV) (hp:List Blk) (wr:List Nat) (out:List Nat) (c:Nat),i+n=a.length →
  fr.length=52→nth fr 20=aL a→nth fr 21 = .sc (.int .i64 (a.length:Int))→nth fr 22 = .sc (.int .i64 (i:Int))→nth fr 1=aL b→nth fr 6 = .sc (.int .u32 (c:Int))→dE 0 hp out (nth fr 5)→out.length=i →
  Dok out→c≤1→val out+c*1000000000 ^ i=val (a.take i)+val (b.take i) →
  ∃ (fr':List PV) (hp':List Blk) (wr':List Nat) (out':List Nat) (c':Nat),ca (af (CC L) run k vL) (n+1) ⟨fr,hp,wr⟩=some (.exit 0,⟨fr',hp',wr'⟩)∧fr'.length=52∧nth fr' 6 = .sc (.int .u32 (c':Int))∧dE 0 hp' out' (nth fr' 5)∧out'.length=a.length
   ∧ Dok out'∧c'≤1∧val out'+c'*1000000000 ^ a.length=val a+val (b.take a.length)
 | 0,i,fr,hp,wr,out,c,hi,h52,h20,h21,h22,h1,h6,hO,ho,hd,hc,hv=>by
  have:i=a.length:=by omega
  subst this
  obtain⟨fr',g1,g2,g3,g4⟩:=RJ L run k fr hp wr a.length h52 h21 h22
  exact⟨fr',hp,wr,out,c,bz g1,g2,by rw[g4,h6],by rw[g3];exact hO,ho,hd,hc,by rw[hv,List.take_length]⟩
 | n+1,i,fr,hp,wr,out,c,hi,h52,h20,h21,h22,h1,h6,hO,ho,hd,hc,hv=>by
  obtain⟨fr1,hp1,wr1,g1,g2,g3,g4,g5,g6,g7,g8⟩:=GY L run k fr hp wr a b out i c _ ha hb hc (by omega) hl h52 h20 h21 h22 h1 h6 hO ho rfl
  obtain⟨fr',hp',wr',out',c',q1,q2⟩:=y0 L run k a b ha hb hl n (i+1) fr1 hp1 wr1 _ _ (by omega) g2 g3 g4 g5 g6 g7 g8 (by simp[ho]) (hd.append (Dok.nil.cons (Nat.mod_lt _ (by omega))))
   (by have:=cj ha i;have:=cj hb i;omega)
   (by
    rw[cq,cq,dz,ho,Nat.pow_succ]
    exact Mz hv rfl rfl rfl)
  exact⟨fr',hp',wr',out',c',by rw[bU g1];exact q1,q2⟩
noncomputable def RL:Code:=seq1 (seq1 (ah 4 kb))
theorem GX:ah 4 kb = .seq (.seq RL (.block 0 (.loop vL))) (ah 5 kb):=rfl
theorem MB (L:Lst)(run:aq)(k:Nat)(a b:List Nat)(a' b':List Nat)(hab:(b.length≤a.length∧a'=a∧b'=b)∨(a.length<b.length∧a'=b∧b'=a)) :
  ∃ fr wr,aX (CC L) run k 2 kb ⟨entry 52 [aL a,aL b],[],[]⟩=some ⟨fr,[],wr⟩∧fr.length=52∧nth fr 0=aL a'∧nth fr 1=aL b':=by
 obtain⟨e1,e2,e3⟩:=cn 50 (aL a) (aL b)
 generalize entry 52 [aL a,aL b]=fr0 at *
 rcases hab with ⟨h,rfl,rfl⟩| ⟨h,rfl,rfl⟩
 ·have hn : ¬ (a'.length<b'.length):=by omega
  simp[kb,Tryz.f160,aX,e1,e2,e3,af,aH,an,ao,aG,ag,ai,aj,ak,aC,az,FP.none,aY,au,bf,av,bK,aa,ae,ab,bh,and_assoc,cg,uD,hn]
 ·simp[kb,Tryz.f160,aX,e1,e2,e3,af,aH,an,ao,aG,ag,ai,aj,ak,aC,az,FP.none,aY,au,bf,av,bK,aa,ae,ab,bh,and_assoc,cg,uD,h]
theorem MA (L:Lst)(run:aq)(k:Nat)(a:List Nat)(fr0:List PV)(wr0:List Nat)(hl:a.length<1000000)(e1:fr0.length=52)(e2:nth fr0 0=aL a) :
  ∃ fr hp wr,aX (CC L) run k 2 (ah 2 kb) ⟨fr0,[],wr0⟩=some ⟨fr,hp,wr⟩∧fr.length=52∧nth fr 0=aL a∧nth fr 1=nth fr0 1∧nth fr 6 = .sc (.int .u32 (0:Nat))∧dE 0 hp [] (nth fr 5):=by
 have hO:∀ n,dE 0 [⟨.live,rep n [dg 0]⟩] [] (.own 0 1 0 0 false):=fun n=>⟨Nat.zero_le _,.inr ⟨0,List.replicate n 0,Nat.le_refl _,by simp,rfl,by rw[qW];rfl⟩⟩
 have hw:=bJ a.length (by omega)
 have h1:a.length+1≤cL:=Nat.le_trans (show a.length+1≤1000000 by assumption) (by decide)
 simp[kb,ah,Tryz.f160,aX,e1,e2,af,aH,an,ao,aG,ag,ai,aj,ak,aC,az,FP.none,aY,au,bf,av,bK,jx,iG,aa,ae,ab,bh,and_assoc,cg,uD,hw,s32,b32,z32,bZ,h1,aP,hO]
theorem ab4 (L:Lst)(run:aq)(k:Nat)(fr:List PV)(hp:List Blk)(wr:List Nat)(a:List Nat)(h52:fr.length=52)(h0:nth fr 0=aL a) :
  ∃ fr',af (CC L) run k RL ⟨fr,hp,wr⟩=some (.normal,⟨fr',hp,wr⟩)∧fr'.length=52∧nth fr' 20=aL a∧nth fr' 21 = .sc (.int .i64 (a.length:Int))∧nth fr' 22 = .sc (.int .i64 (0:Nat))
   ∧ nth fr' 1=nth fr 1∧nth fr' 6=nth fr 6∧nth fr' 5=nth fr 5:=by
 simp[RL,kb,ah,seq1,Tryz.f160,af,aH,an,ao,aG,ag,ai,aj,ak,aC,az,FP.none,av,bK,aa,ae,ab,bh,cg,uD,h52,h0]
theorem MC (L:Lst)(run:aq)(k:Nat)(fr:List PV)(hp:List Blk)(wr:List Nat)(out:List Nat)(c:Nat)(hl:out.length<1000000)(h52:fr.length=52)(h6:nth fr 6 = .sc (.int .u32 (c:Int)))(hO:dE 0 hp out (nth fr 5)) :
  ∃ st p',af (CC L) run k (ah 5 kb) ⟨fr,hp,wr⟩=some (.ret,st)∧aV TT st.fr st.hp Tryz.f160.results.toList=some [p']∧dE 0 st.hp (out++[c]) p':=by
 obtain⟨p',hp',fp,h7,h8,h9⟩:=hO.app c (by omega)
 simp[kb,ah,Tryz.f160,af,aH,an,ao,aG,ag,ai,aj,ak,aC,az,FP.none,av,aa,ae,ab,bh,bc,dj,uD,h52,h6,s32,b32,z32,gM c,mM,mv,jk,bZ,h7,h8,aV]
def y5:List PV→Option (List PV)
 | [p,q]=>match gU p,gU q with
  | some a,some b=>some [aL (cX (Nat.max a.length b.length+1) (val a+val b))]
  | _,_=>none
 | _=>none
theorem yZ:Ab.Spec base.P 160 y5:=Ab.Spec.bN (C:=CC []) (cU trivial) fun args rs h=>by
 unfold y5 at h
 split at h
 ·split at h
  ·rename_i a b ea eb
   obtain⟨rfl,ha,hla⟩:=dp ea
   obtain⟨rfl,hb,hlb⟩:=dp eb
   simp only[Option.some.injEq] at h
   subst h
   obtain⟨a',b',hab,hsum,hmax,ha',hb',hla',hle⟩:∃ a' b',((b.length≤a.length∧a'=a∧b'=b)∨(a.length<b.length∧a'=b∧b'=a))∧val a'+val b'=val a+val b∧a'.length=Nat.max a.length b.length∧Dok a'∧Dok b'∧a'.length<1000000∧b'.length≤a'.length:=by
    by_cases hx:b.length≤a.length
    ·exact⟨a,b,.inl ⟨hx,rfl,rfl⟩,rfl,(Nat.max_eq_left hx).symm,ha,hb,hla,hx⟩
    ·exact⟨b,a,.inr ⟨by omega,rfl,rfl⟩,Nat.add_comm _ _,(Nat.max_eq_right (by omega)).symm,hb,ha,hlb,by omega⟩
   obtain⟨fr0,wr0,h01,h02,h03,h04⟩:=MB [] (runK (CC []) (a'.length+1)) (a'.length+1) a b a' b' hab
   obtain⟨fr1,hp1,wr1,h1,h2,h3,h4,h5,h6⟩:=MA [] (runK (CC []) (a'.length+1)) (a'.length+1) a' fr0 wr0 hla' h02 h03
   obtain⟨fr2,g1,g2,g3,g4,g5,g6,g7,g8⟩:=ab4 [] (runK (CC []) (a'.length+1)) (a'.length+1) fr1 hp1 wr1 a' h2 h3
   obtain⟨fr3,hp3,wr3,out,c,q1,q2,q3,q4,q5,q6,q7,q8⟩:=y0 [] (runK (CC []) (a'.length+1)) (a'.length+1) a' b' ha' hb' hla' a'.length 0 fr2 hp1 wr1 [] 0 (by simp) g2 g3 g4 g5 (by rw[g6,h4,h04]) (by rw[g7,h5]) (by rw[g8];exact h6) rfl Dok.nil (by omega) (by simp[val])
   obtain⟨st,p',e1,e2,e3⟩:=MC [] (runK (CC []) (a'.length+1)) (a'.length+1) fr3 hp3 wr3 out c (by omega) q2 q3 q4
   have hx:af (CC []) (runK (CC []) (a'.length+1)) (a'.length+1) kb ⟨entry 52 [aL a,aL b],[],[]⟩=some (.ret,st):=by
    rw[aM 2 h01,aM 2 h1,show ah 2 (ah 2 kb)=ah 4 kb from rfl,GX,aw ((aw g1).trans (bF q1))]
    exact e1
   have hout:out++[c]=cX (Nat.max a.length b.length+1) (val a+val b):=by
    refine (q6.append (Dok.nil.cons (by omega))).oL (by simp[q5,hmax]) ?_
    rw[dz,q5,← hsum,Nat.mul_comm,q8,cA _ _ hle]
   obtain⟨rs2,ids,r1,r2⟩:=e3.G3
   rw[hout] at r2
   exact⟨a'.length+2,_,_,_,rs2,ids,aQ Ob rfl hx e2,r1,r2⟩
  ·cases h
 ·cases h
noncomputable def lJ:Code:=((Tryz.f161.body).bind aF).getD .skip
noncomputable def lI:Code:=Tryz.f161.body.getD .skip
theorem MV (L:Lst)(run:aq)(k:Nat)(fr:List PV)(hp:List Blk)(wr:List Nat)(n:Nat)(h44:fr.length=44)
  (h14:nth fr 14 = .sc (.int .i64 (n:Int))) (h15:nth fr 15 = .sc (.int .i64 (n:Int))) :
  ∃ fr',af (CC L) run k lJ ⟨fr,hp,wr⟩=some (.exit 0,⟨fr',hp,wr⟩)∧fr'.length=44∧nth fr' 5=nth fr 5:=by
 simp[lJ,Tryz.f161,aF,af,aH,an,ao,aG,ag,ai,aj,ak,aC,az,FP.none,aY,au,bf,aa,ae,ab,h44,h14,h15]
set_option maxHeartbeats 2000000 in
theorem Dw (L:Lst)(run:aq)(k:Nat)(fr:List PV)(hp:List Blk)(wr:List Nat)(a b out:List Nat)(i c c' d:Nat)(ha:Dok a)(hb:Dok b)(hc:c≤1)(hi:i<a.length)(hl:a.length<1000000)
  (h44:fr.length=44) (h13:nth fr 13=aL a) (h14:nth fr 14 = .sc (.int .i64 (a.length:Int))) (h15:nth fr 15 = .sc (.int .i64 (i:Int))) (h1:nth fr 1=aL b)
  (h6:nth fr 6 = .sc (.int .u32 (c:Int))) (hO:dE 0 hp out (nth fr 5)) (ho:out.length=i) (hs:(at0 a i<c+at0 b i∧c'=1∧d=at0 a i+1000000000 - (c+at0 b i))∨(c+at0 b i≤at0 a i∧c'=0∧d=at0 a i - (c+at0 b i))) :
  ∃ fr' hp' wr',af (CC L) run k lJ ⟨fr,hp,wr⟩=some (.normal,⟨fr',hp',wr'⟩)∧fr'.length=44∧nth fr' 13=aL a∧nth fr' 14 = .sc (.int .i64 (a.length:Int))
   ∧ nth fr' 15 = .sc (.int .i64 ((i+1:Nat):Int))∧nth fr' 1=aL b∧nth fr' 6 = .sc (.int .u32 (c':Int))∧dE 0 hp' (out++[d]) (nth fr' 5):=by
 have hda:=eK a i hi
 have hax:=ha.get hi
 rw[cY hi] at hs
 generalize a[i]=x at *
 have e1:aL a = .imm a.length false (a.map dg):=rfl
 have e2:aL b = .imm b.length false (b.map dg):=rfl
 have hdx:dg x = .sc (.int .u32 (x:Int)):=rfl
 rw[e1] at h13 ⊢;rw[e2] at h1 ⊢;rw[hdx] at hda
 have hwi:=bJ i (by omega)
 obtain⟨p',hp',fp,h7,h8,h9⟩:=hO.app d (ho ▸ Nat.lt_trans hi (Nat.lt_trans hl (by decide)))
 have hwx:bA .u32 ((x:Int)+1000000000)=((x+1000000000:Nat):Int):=dm .u32 (x+1000000000) (im (by omega))
 have hb9:=cj hb i
 obtain⟨x2,hx2⟩:∃ x2,x2=x+1000000000:=⟨_,rfl⟩
 rw[← hx2] at hwx hs
 by_cases hib:i<b.length
 ·have hdb:=eK b i hib
  rw[cY hib] at hs hb9
  generalize b[i]=y at *
  have hdy:dg y = .sc (.int .u32 (y:Int)):=rfl
  rw[hdy] at hdb
  obtain⟨s,hs1⟩:∃ s,s=c+y:=⟨_,rfl⟩
  have hw2:bA .u32 ((c:Int)+(y:Int))=(s:Int):=dq .u32 c y s hs1 (im (by omega))
  rw[← hs1] at hs
  rcases hs with ⟨hlt,rfl,rfl⟩| ⟨hge,rfl,rfl⟩
  ·have hw4:bA .u32 ((x2:Int) - (s:Int))=((x2 - s:Nat):Int):=x7 .u32 x2 s (x2 - s) (by omega) (im (by omega))
   generalize x2 - s=d at *
   simp[lJ,Tryz.f161,aF,af,aH,an,ao,aG,ag,ai,aj,ak,aC,az,FP.none,aY,au,bf,av,bK,bg,bk,partOf,aa,ae,ab,bh,and_assoc,cN,bc,dj,h44,h13,h14,h15,h1,h6,uD,s32,b32,z32,a32,hi,hib,hda,hdb,aU,hw2,hlt,hwx,hw4,hwi,gM d,mM,mv,jk,bZ,h7,h8]
  ·have hw4:bA .u32 ((x:Int) - (s:Int))=((x - s:Nat):Int):=x7 .u32 x s (x - s) (by omega) (im (by omega))
   have hnl : ¬ (x<s):=by omega
   generalize x - s=d at *
   simp[lJ,Tryz.f161,aF,af,aH,an,ao,aG,ag,ai,aj,ak,aC,az,FP.none,aY,au,bf,av,bK,bg,bk,partOf,aa,ae,ab,bh,and_assoc,cN,bc,dj,h44,h13,h14,h15,h1,h6,uD,s32,b32,z32,a32,hi,hib,hda,hdb,aU,hw2,hnl,hw4,hwi,gM d,mM,mv,jk,bZ,h7,h8]
 ·rw[iE (Nat.le_of_not_lt hib)] at hs
  simp only[Nat.add_zero] at hs
  rcases hs with ⟨hlt,rfl,rfl⟩| ⟨hge,rfl,rfl⟩
  ·have hw4:bA .u32 ((x2:Int) - (c:Int))=((x2 - c:Nat):Int):=x7 .u32 x2 c (x2 - c) (by omega) (im (by omega))
   generalize x2 - c=d at *
   simp[lJ,Tryz.f161,aF,af,aH,an,ao,aG,ag,ai,aj,ak,aC,az,FP.none,aY,au,bf,av,bK,bg,bk,partOf,aa,ae,ab,bh,and_assoc,cN,bc,dj,h44,h13,h14,h15,h1,h6,uD,s32,b32,z32,a32,hi,hib,hda,aU,hlt,hwx,hw4,hwi,gM d,mM,mv,jk,bZ,h7,h8]
  ·have hw4:bA .u32 ((x:Int) - (c:Int))=((x - c:Nat):Int):=x7 .u32 x c (x - c) (by omega) (im (by omega))
   have hnl : ¬ (x<c):=by omega
   generalize x - c=d at *
   simp[lJ,Tryz.f161,aF,af,aH,an,ao,aG,ag,ai,aj,ak,aC,az,FP.none,aY,au,bf,av,bK,bg,bk,partOf,aa,ae,ab,bh,and_assoc,cN,bc,dj,h44,h13,h14,h15,h1,h6,uD,s32,b32,z32,a32,hi,hib,hda,aU,hnl,hw4,hwi,gM d,mM,mv,jk,bZ,h7,h8]
theorem Hb {va vb vo x c c' y d P:Nat}(h:va+c*P=vo+vb)(hs:(x<c+y∧c'=1∧d=x+1000000000 - (c+y))∨(c+y≤x∧c'=0∧d=x - (c+y)))(hc:c+y≤x+1000000000) :
  va+x*P+c'*(P*1000000000)=vo+P*d+(vb+y*P):=by
 have e:x+c'*1000000000=d+c+y:=by omega
 have e2:(x+c'*1000000000)*P=(d+c+y)*P:=by rw[e]
 simp only[Nat.add_mul] at e2
 have e3:c'*1000000000*P=c'*(P*1000000000):=by grind
 have e4:d*P=P*d:=Nat.mul_comm _ _
 omega
theorem we (L:Lst)(run:aq)(k:Nat)(a b:List Nat)(ha:Dok a)(hb:Dok b)(hl:a.length<1000000):∀ (n i:Nat) (fr:List PV) (hp:List Blk) (wr:List Nat) (out:List Nat) (c:Nat),i+n=a.length →
  fr.length=44→nth fr 13=aL a→nth fr 14 = .sc (.int .i64 (a.length:Int))→nth fr 15 = .sc (.int .i64 (i:Int))→nth fr 1=aL b→nth fr 6 = .sc (.int .u32 (c:Int))→dE 0 hp out (nth fr 5)→out.length=i →
  Dok out→c≤1→val (a.take i)+c*1000000000 ^ i=val out+val (b.take i) →
  ∃ (fr':List PV) (hp':List Blk) (wr':List Nat) (out':List Nat) (c':Nat),ca (af (CC L) run k lJ) (n+1) ⟨fr,hp,wr⟩=some (.exit 0,⟨fr',hp',wr'⟩)∧fr'.length=44∧dE 0 hp' out' (nth fr' 5)∧out'.length=a.length
   ∧ Dok out'∧c'≤1∧val a+c'*1000000000 ^ a.length=val out'+val (b.take a.length)
 | 0,i,fr,hp,wr,out,c,hi,h44,h13,h14,h15,h1,h6,hO,ho,hd,hc,hv=>by
  have:i=a.length:=by omega
  subst this
  obtain⟨fr',g1,g2,g3⟩:=MV L run k fr hp wr a.length h44 h14 h15
  exact⟨fr',hp,wr,out,c,bz g1,g2,by rw[g3];exact hO,ho,hd,hc,by rw[← hv,List.take_length]⟩
 | n+1,i,fr,hp,wr,out,c,hi,h44,h13,h14,h15,h1,h6,hO,ho,hd,hc,hv=>by
  have hx:=cj ha i
  have hy:=cj hb i
  obtain⟨c',d,hs,hc',hdd⟩:∃ c' d,((at0 a i<c+at0 b i∧c'=1∧d=at0 a i+1000000000 - (c+at0 b i))∨(c+at0 b i≤at0 a i∧c'=0∧d=at0 a i - (c+at0 b i)))∧c'≤1∧d<1000000000:=by
   by_cases h:at0 a i<c+at0 b i
   ·exact⟨1,_,.inl ⟨h,rfl,rfl⟩,by omega,by omega⟩
   ·exact⟨0,_,.inr ⟨by omega,rfl,rfl⟩,by omega,by omega⟩
  obtain⟨fr1,hp1,wr1,g1,g2,g3,g4,g5,g6,g7,g8⟩:=Dw L run k fr hp wr a b out i c c' d ha hb hc (by omega) hl h44 h13 h14 h15 h1 h6 hO ho hs
  obtain⟨fr',hp',wr',out',c2,q1,q2⟩:=we L run k a b ha hb hl n (i+1) fr1 hp1 wr1 _ _ (by omega) g2 g3 g4 g5 g6 g7 g8 (by simp[ho]) (hd.append (Dok.nil.cons hdd)) hc'
   (by
    rw[cq,cq,dz,ho,Nat.pow_succ]
    exact Hb hv hs (by omega))
  exact⟨fr',hp',wr',out',c2,by rw[bU g1];exact q1,q2⟩
noncomputable def Hd:Code:=seq1 (seq1 (ah 3 lI))
theorem Dv:ah 3 lI = .seq (.seq Hd (.block 0 (.loop lJ))) (ah 4 lI):=rfl
theorem MU (L:Lst)(run:aq)(k:Nat)(a b:List Nat)(hl:a.length<1000000)(hne:a≠[]) :
  ∃ fr hp wr,aX (CC L) run k 3 lI ⟨entry 44 [aL a,aL b],[],[]⟩=some ⟨fr,hp,wr⟩∧fr.length=44∧nth fr 0=aL a∧nth fr 1=aL b∧nth fr 6 = .sc (.int .u32 (0:Nat))∧dE 0 hp [] (nth fr 5):=by
 obtain⟨e1,e2,e3⟩:=cn 42 (aL a) (aL b)
 generalize entry 44 [aL a,aL b]=fr0 at *
 have hO:∀ n,dE 0 [⟨.live,rep n [dg 0]⟩] [] (.own 0 1 0 0 false):=fun n=>⟨Nat.zero_le _,.inr ⟨0,List.replicate n 0,Nat.le_refl _,by simp,rfl,by rw[qW];rfl⟩⟩
 have h1:a.length≤cL:=Nat.le_trans (Nat.le_of_lt hl) (by decide)
 have h2:(0 == a.length)=false:=by
  have:=List.length_pos_iff.2 hne
  simp;omega
 simp[lI,Tryz.f161,aX,e1,e2,e3,af,aH,an,ao,aG,ag,ai,aj,ak,aC,az,FP.none,av,bK,bk,jx,aa,ae,ab,bh,and_assoc,cg,uD,s32,b32,z32,bZ,h1,h2,aP,hO]
theorem Yz (L:Lst)(run:aq)(k:Nat)(fr:List PV)(hp:List Blk)(wr:List Nat)(a:List Nat)(h44:fr.length=44)(h0:nth fr 0=aL a) :
  ∃ fr',af (CC L) run k Hd ⟨fr,hp,wr⟩=some (.normal,⟨fr',hp,wr⟩)∧fr'.length=44∧nth fr' 13=aL a∧nth fr' 14 = .sc (.int .i64 (a.length:Int))∧nth fr' 15 = .sc (.int .i64 (0:Nat))
   ∧ nth fr' 1=nth fr 1∧nth fr' 6=nth fr 6∧nth fr' 5=nth fr 5:=by
 simp[Hd,lI,ah,seq1,Tryz.f161,af,aH,an,ao,aG,ag,ai,aj,ak,aC,az,FP.none,av,bK,aa,ae,ab,bh,cg,uD,h44,h0]
theorem Hc (L:Lst)(run:aq)(k:Nat)(fr:List PV)(hp:List Blk)(wr:List Nat)(h44:fr.length=44) :
  ∃ st,af (CC L) run k (ah 4 lI) ⟨fr,hp,wr⟩=some (.ret,st)∧aV TT st.fr st.hp Tryz.f161.results.toList=some [nth fr 5]∧st.hp=hp:=by
 simp[lI,ah,Tryz.f161,af,aH,an,ao,aG,ag,ai,aj,ak,aC,az,FP.none,aa,ab,h44,aV]
def rE:List PV→Option (List PV)
 | [p,q]=>match gU p,gU q with
  | some a,some b=>bif Nat.ble (val b) (val a) && Nat.ble b.length a.length && !(a.length.beq 0) then some [aL (cX a.length (val a - val b))] else none
  | _,_=>none
 | _=>none
theorem wc:Ab.Spec base.P 161 rE:=Ab.Spec.bN (C:=CC []) (cU trivial) fun args rs h=>by
 unfold rE at h
 split at h
 ·split at h
  ·rename_i a b ea eb
   obtain⟨rfl,ha,hla⟩:=dp ea
   obtain⟨rfl,hb,hlb⟩:=dp eb
   cases hc:Nat.ble (val b) (val a) && Nat.ble b.length a.length && !(a.length.beq 0) with
   | false=>rw[hc] at h;cases h
   | true =>
    rw[hc] at h
    simp only[cond_true,Option.some.injEq] at h
    subst h
    simp only[Bool.and_eq_true,Nat.ble_eq,Bool.not_eq_true'] at hc
    obtain⟨⟨hle,hlen⟩,hne⟩:=hc
    have hne':a≠[]:=by intro e;subst e;simp at hne
    obtain⟨fr1,hp1,wr1,h1,h2,h3,h4,h5,h6⟩:=MU [] (runK (CC []) (a.length+1)) (a.length+1) a b hla hne'
    obtain⟨fr2,g1,g2,g3,g4,g5,g6,g7,g8⟩:=Yz [] (runK (CC []) (a.length+1)) (a.length+1) fr1 hp1 wr1 a h2 h3
    obtain⟨fr3,hp3,wr3,out,c,q1,q2,q3,q4,q5,q6,q7⟩:=we [] (runK (CC []) (a.length+1)) (a.length+1) a b ha hb hla a.length 0 fr2 hp1 wr1 [] 0 (by simp) g2 g3 g4 g5 (by rw[g6,h4]) (by rw[g7,h5]) (by rw[g8];exact h6) rfl Dok.nil (by omega) (by simp[val])
    obtain⟨st,e1,e2,e3⟩:=Hc [] (runK (CC []) (a.length+1)) (a.length+1) fr3 hp3 wr3 q2
    have hx:af (CC []) (runK (CC []) (a.length+1)) (a.length+1) lI ⟨entry 44 [aL a,aL b],[],[]⟩=some (.ret,st):=by
     rw[aM 3 h1,Dv,aw ((aw g1).trans (bF q1))]
     exact e1
    have hout:out=cX a.length (val a - val b):=by
     refine q5.oL q4 ?_
     rw[cA _ _ hlen] at q7
     have hb1:=eM q5
     rw[q4] at hb1
     have:c=0∨c=1:=by omega
     rcases this with rfl | rfl <;> omega
    obtain⟨rs2,ids,r1,r2⟩:=q3.G3
    rw[hout] at r2
    rw[← e3] at r1
    exact⟨a.length+2,_,_,_,rs2,ids,aQ It rfl hx e2,r1,r2⟩
  ·cases h
 ·cases h
theorem bp {L:Lst}{g:Nat}{f:List PV→Option (List PV)}(hs:base.shared g=false)(ho:bu L g=fun a=>f (aJ a))(run:aq)(dr:Bool)(hp:List Blk)(args rs:List PV)
  (h1:bq (snap hp bj) args=some (args,[])) (h2:aJ args=args) (h3:f args=some rs):cb (CC L) run dr hp g args=some (gN rs,hp,⟨[],[],false,false⟩):=by
 have h4:(CC L).orc g args=some rs:=by
  show bu L g args=_
  rw[ho];show f (aJ args)=_;rw[h2,h3]
 by_cases h:rs.all dA=true
 ·exact jD hs h1 h4 h
 ·exact ee hs h1 h4 (by simpa using h)
theorem lW (hp:List Blk)(a b:List Nat):bq (snap hp bj) [aL a,aL b]=some ([aL a,aL b],[]):=rfl
theorem J7 (hp:List Blk)(n:Bool)(a:List Nat):bq (snap hp bj) [.sc (.bool n),aL a]=some ([.sc (.bool n),aL a],[]):=rfl
theorem lV (hp:List Blk)(a:Int):bq (snap hp bj) [bn a]=some ([bn a],[]):=rfl
theorem gC (hp:List Blk)(a b:Int):bq (snap hp bj) [bn a,bn b]=some ([bn a,bn b],[]):=rfl
theorem jR (a b:List Nat):aJ [aL a,aL b]=[aL a,aL b]:=by simp only[aJ,fE]
theorem EA (n:Bool)(a:List Nat):aJ [.sc (.bool n),aL a]=[.sc (.bool n),aL a]:=by simp only[aJ,fE,canon]
theorem jv (a:Int):aJ [bn a]=[bn a]:=by simp only[aJ,xh]
theorem fk (a b:Int):aJ [bn a,bn b]=[bn a,bn b]:=by simp only[aJ,xh]
def Sm (z:Int):Prop:=(aA z.natAbs).length<400000
theorem Sm.lt {z:Int}(h:Sm z):(aA z.natAbs).length<1000000:=Nat.lt_trans h (by decide)
theorem dR {p:PV}{z:Int}(h:fL p=some z):p=bn z∧Sm z:=HH h
theorem cG {z:Int}(h:Sm z):fL (bn z)=some z:=NA z h
theorem K3 (L:Lst)(run:aq)(k:Nat)(z:Int) :
  ∃ st,af (CC L) run k (Tryz.f101.body.getD .skip) ⟨entry 11 [bn z],[],[]⟩=some (.ret,st)∧aV TT st.fr st.hp Tryz.f101.results.toList=some [Ab.bC z.sign]:=by
 obtain⟨e1,e2⟩:=cQ 10 (bn z)
 generalize entry 11 [bn z]=fr0 at *
 cases z with
 | ofNat n =>
  cases n with
  | zero =>
   have e3:bn (Int.ofNat 0) = .agg [.sc (.bool false),aL []]:=rfl
   rw[e3] at e2
   simp[Tryz.f101,e1,e2,af,aH,an,ao,aG,ag,ai,aj,ak,aC,az,FP.none,aY,au,bf,av,bK,bL,partOf,aa,ae,ab,bh,cg,bm,uD,uW,sD,aD,wf0,wf1,aP,aU,aZ,br,aV,Ab.bC]
  | succ n =>
   have h0:=cP.2 (Nat.succ_ne_zero n)
   have e3:bn (Int.ofNat (n+1)) = .agg [.sc (.bool false),aL (aA (n+1))]:=rfl
   rw[e3] at e2
   have e4:(Int.ofNat (n+1)).sign=1:=rfl
   rw[e4]
   generalize aA (n+1)=l at *
   have h1:((l.length:Int) == 0)=false:=by simp;intro h;subst h;simp at h0
   have h2:l≠[]:=by intro h;subst h;simp at h0
   simp[Tryz.f101,e1,e2,af,aH,an,ao,aG,ag,ai,aj,ak,aC,az,FP.none,aY,au,bf,av,bK,bL,partOf,aa,ae,ab,bh,cg,bm,uD,uW,sD,sB,aD,aB,wf0,wf1,aP,aU,aZ,br,aV,Ab.bC,h1]
 | negSucc n =>
   have h0:=cP.2 (Nat.succ_ne_zero n)
   have e3:bn (Int.negSucc n) = .agg [.sc (.bool true),aL (aA (n+1))]:=rfl
   rw[e3] at e2
   have e4:(Int.negSucc n).sign = -1:=rfl
   rw[e4]
   generalize aA (n+1)=l at *
   have h1:((l.length:Int) == 0)=false:=by simp;intro h;subst h;simp at h0
   have h2:l≠[]:=by intro h;subst h;simp at h0
   simp[Tryz.f101,e1,e2,af,aH,an,ao,aG,ag,ai,aj,ak,aC,az,FP.none,aY,au,bf,av,bK,bL,partOf,aa,ae,ab,bh,cg,bm,uD,uW,sD,sB,aD,aB,wf0,wf1,aP,aU,aZ,br,aV,Ab.bC,h1]
def jo:List PV→Option (List PV)
 | [p]=>match fL p with
  | some z=>some [Ab.bC z.sign]
  | none=>none
 | _=>none
theorem kM:Ab.Spec base.P 101 jo:=Ab.Spec.bN (C:=CC []) (cU trivial) fun args rs h=>by
 unfold jo at h
 split at h
 ·split at h
  ·rename_i z hz
   obtain⟨rfl,-⟩:=dR hz
   simp only[Option.some.injEq] at h
   subst h
   obtain⟨st,e1,e2⟩:=K3 [] (runK (CC []) 1) 1 z
   exact⟨2,_,_,_,_,_,aQ Oe rfl e1 e2,eF _ _,Wk.refl rfl,trivial⟩
  ·cases h
 ·cases h
noncomputable def L1:Lst:=[(167,jn),(152,fP),(160,y5),(161,rE),(146,pn)]
theorem Ky:dM base.P L1:=⟨jB,jX,yZ,wc,qM,trivial⟩
theorem MO:bu L1 152=fun a=>fP (aJ a):=rfl
theorem Yh:bu L1 160=fun a=>y5 (aJ a):=rfl
theorem Sf:bu L1 161=fun a=>rE (aJ a):=rfl
theorem Yg:bu L1 146=fun a=>pn (aJ a):=rfl
theorem kh (run:aq)(dr:Bool)(hp:List Blk)(n:Bool)(l:List Nat)(hd:Dok l)(hl:l.length<1000000) :
  cb (CC L1) run dr hp 152 [.sc (.bool n),aL l]=some (bn (sgn n (val l)),hp,⟨[],[],false,false⟩) :=
 bp nB MO run dr hp _ [bn (sgn n (val l))] (J7 hp n l) (EA n l) (by simp only[fP,cS hd hl])
theorem NN (run:aq)(dr:Bool)(hp:List Blk)(a b:List Nat)(ha:Dok a)(hla:a.length<1000000)(hb:Dok b)(hlb:b.length<1000000) :
  cb (CC L1) run dr hp 160 [aL a,aL b]=some (aL (cX (Nat.max a.length b.length+1) (val a+val b)),hp,⟨[],[],false,false⟩) :=
 bp Wp Yh run dr hp _ [aL (cX (Nat.max a.length b.length+1) (val a+val b))] (lW hp a b) (jR a b) (by simp only[y5,cS ha hla,cS hb hlb])
theorem xl (run:aq)(dr:Bool)(hp:List Blk)(a b:List Nat)(ha:Dok a)(hla:a.length<1000000)(hb:Dok b)(hlb:b.length<1000000)(h:val b≤val a)(h':b.length≤a.length)(h0:a.length≠0) :
  cb (CC L1) run dr hp 161 [aL a,aL b]=some (aL (cX a.length (val a - val b)),hp,⟨[],[],false,false⟩) :=
 bp Pb Sf run dr hp _ [aL (cX a.length (val a - val b))] (lW hp a b) (jR a b) (by
  have h1:Nat.ble (val b) (val a)=true:=by rw[Nat.ble_eq];exact h
  have h2:Nat.ble b.length a.length=true:=by rw[Nat.ble_eq];exact h'
  have h3:a.length.beq 0=false:=by
   cases e:a.length with
   | zero=>exact absurd e h0
   | succ n=>rfl
  simp[rE,cS ha hla,cS hb hlb,h1,h2,h3])
theorem nT (run:aq)(dr:Bool)(hp:List Blk)(a b:List Nat)(ha:Dok a)(hla:a.length<1000000)(hb:Dok b)(hlb:b.length<1000000) :
  cb (CC L1) run dr hp 146 [aL a,aL b]=some (Ab.bC (n9 a b),hp,⟨[],[],false,false⟩) :=
 bp I2 Yg run dr hp _ [Ab.bC (n9 a b)] (lW hp a b) (jR a b) (by simp only[pn,cS ha hla,cS hb hlb])
theorem Sl (run:aq)(k:Nat)(n:Bool)(l:List Nat)(hd:Dok l)(hl:l.length<1000000) :
  ∃ st,af (CC L1) run k (Tryz.f149.body.getD .skip) ⟨entry 9 [wh n l],[],[]⟩=some (.ret,st)∧aV TT st.fr st.hp Tryz.f149.results.toList=some [bn (sgn (!n) (val l))]:=by
 have hc:=fun hp dr=>kh run dr hp (!n) l hd hl
 obtain⟨e1,e2⟩:=cQ 8 (wh n l)
 generalize entry 9 [wh n l]=fr0 at *
 have e3:wh n l = .agg [.sc (.bool n),aL l]:=rfl
 have e4:bn (sgn (!n) (val l)) = .agg [.sc (.bool (bt (sgn (!n) (val l)))),aL (aA (sgn (!n) (val l)).natAbs)]:=rfl
 rw[e3] at e2
 rw[e4] at hc ⊢
 generalize aA (sgn (!n) (val l)).natAbs=m at *
 generalize bt (sgn (!n) (val l))=nn at *
 simp[Tryz.f149,e1,e2,af,aH,an,ao,aG,ag,ai,aO,aj,ak,aC,az,FP.none,bL,partOf,unP,aa,ae,ab,bh,bm,bS,bD,bc,hc,uW,sD,sB,sW,aD,aB,aW,zW,wf0,wf1,aP,aU,aZ,cf,bX,bE,br,aV]
theorem abn (z:Int):sgn (bt z) z.natAbs=z:=by
 cases z with
 | ofNat n=>rfl
 | negSucc n=>rfl
theorem WC (z:Int):sgn (!bt z) z.natAbs = -z:=by
 cases z with
 | ofNat n=>show Int.negOfNat n = -(Int.ofNat n);cases n <;> rfl
 | negSucc n=>rfl
def tz:List PV→Option (List PV)
 | [p]=>match fL p with
  | some z=>some [bn (-z)]
  | none=>none
 | _=>none
theorem pN:Ab.Spec base.P 149 tz:=Ab.Spec.bN (C:=CC L1) (cU Ky) fun args rs h=>by
 unfold tz at h
 split at h
 ·split at h
  ·rename_i z hz
   obtain⟨rfl,hs⟩:=dR hz
   simp only[Option.some.injEq] at h
   subst h
   obtain⟨st,e1,e2⟩:=Sl (runK (CC L1) 1) 1 (bt z) (aA z.natAbs) (bP _) hs.lt
   rw[bQ,WC] at e2
   exact⟨2,_,_,_,_,_,aQ VB rfl e1 e2,iX _ _,Wk.refl rfl,trivial⟩
  ·cases h
 ·cases h
noncomputable def H4:Code:=Tryz.f139.body.getD .skip
theorem whW (z:Int):bn z = .agg [.sc (.bool (bt z)),aL (aA z.natAbs)]:=rfl
set_option maxHeartbeats 1000000 in
theorem N5 (run:aq)(k:Nat)(n:Bool)(a b:List Nat)(ha:Dok a)(hla:a.length<400000)(hb:Dok b)(hlb:b.length<400000) :
  ∃ st,af (CC L1) run k H4 ⟨entry 42 [wh n a,wh n b],[],[]⟩=some (.ret,st)∧aV TT st.fr st.hp Tryz.f139.results.toList=some [bn (sgn n (val a+val b))]:=by
 have hm:Nat.max a.length b.length≤400000:=Nat.max_le.2 ⟨by omega,by omega⟩
 have hv:val (cX (Nat.max a.length b.length+1) (val a+val b))=val a+val b:=fh _ _ (by
  have h1:=eM ha
  have h2:=eM hb
  have h3:=Nat.pow_le_pow_right (n:=1000000000) (by omega) (Nat.le_max_left a.length b.length)
  have h4:=Nat.pow_le_pow_right (n:=1000000000) (by omega) (Nat.le_max_right a.length b.length)
  have h5:a.length.max b.length=max a.length b.length:=rfl
  rw[h5,Nat.pow_succ];omega)
 have hc:=fun hp dr=>NN run dr hp a b ha (by omega) hb (by omega)
 have hc2:=fun hp dr=>kh run dr hp n (cX (Nat.max a.length b.length+1) (val a+val b)) (gu _ _) (by rw[di];omega)
 rw[hv] at hc2
 generalize cX (Nat.max a.length b.length+1) (val a+val b)=m at *
 obtain⟨e1,e2,e3⟩:=cn 40 (wh n a) (wh n b)
 generalize entry 42 [wh n a,wh n b]=fr0 at *
 have e4:∀ l,wh n l = .agg [.sc (.bool n),aL l]:=fun _=>rfl
 rw[e4] at e2 e3
 simp only[whW] at hc2 ⊢
 generalize aA (sgn n (val a+val b)).natAbs=r at *
 generalize bt (sgn n (val a+val b))=nn at *
 simp[H4,Tryz.f139,e1,e2,e3,af,aH,an,ao,aG,ag,ai,aO,aj,ak,aC,az,FP.none,aY,dB,bL,partOf,aa,ae,ab,bh,bm,bS,bD,bc,hc,hc2,uB,uW,sD,sB,sW,aD,aB,aW,zW,wf0,wf1,aP,aU,aZ,cf,bX,bE,br,aV,number,FP.free,cH,FP.apart]
theorem lp (x y:Nat):n9 (aA x) (aA y)=dL x y:=by
 unfold n9
 by_cases h1:(aA x).length<(aA y).length
 ·rw[if_pos h1,dL,if_pos]
  exact Nat.lt_of_not_le fun h=>absurd (cw h) (by omega)
 ·rw[if_neg h1]
  by_cases h2:(aA y).length<(aA x).length
  ·have h3:y<x:=Nat.lt_of_not_le fun h=>absurd (cw h) (by omega)
   rw[if_pos h2,dL,if_neg (by omega),if_neg (by omega)]
  ·rw[if_neg h2,bQ,bQ]
set_option maxHeartbeats 1000000 in
theorem N4 (run:aq)(k:Nat)(n:Bool)(x y:Nat)(hla:(aA x).length<400000)(hlb:(aA y).length<400000)(hxy:x<y) :
  ∃ st,af (CC L1) run k H4 ⟨entry 42 [wh n (aA x),wh (!n) (aA y)],[],[]⟩=some (.ret,st)∧aV TT st.fr st.hp Tryz.f139.results.toList=some [bn (sgn (!n) (y - x))]:=by
 have hv:val (cX (aA y).length (y - x))=y - x:=fh _ _ (Nat.lt_of_le_of_lt (Nat.sub_le _ _) (fy y))
 have hy0:(aA y).length≠0:=by
  have:=(cP (n:=y)).2 (by omega)
  omega
 have hc0:=fun hp dr=>nT run dr hp (aA x) (aA y) (bP _) (by omega) (bP _) (by omega)
 rw[lp,dL,if_pos hxy] at hc0
 have hc:=fun hp dr=>xl run dr hp (aA y) (aA x) (bP _) (by omega) (bP _) (by omega) (by rw[bQ,bQ];omega) (cw (Nat.le_of_lt hxy)) hy0
 rw[bQ,bQ] at hc
 have hc2:=fun hp dr=>kh run dr hp (!n) (cX (aA y).length (y - x)) (gu _ _) (by rw[di];omega)
 rw[hv] at hc2
 generalize cX (aA y).length (y - x)=m at *
 obtain⟨e1,e2,e3⟩:=cn 40 (wh n (aA x)) (wh (!n) (aA y))
 generalize entry 42 [wh n (aA x),wh (!n) (aA y)]=fr0 at *
 have e4:∀ n l,wh n l = .agg [.sc (.bool n),aL l]:=fun _ _=>rfl
 rw[e4] at e2 e3
 simp only[whW] at hc2 ⊢
 generalize aA (sgn (!n) (y - x)).natAbs=r at *
 generalize bt (sgn (!n) (y - x))=nn at *
 have hnn:(n == !n)=false:=by cases n <;> rfl
 simp only[Ab.bC] at hc0
 simp[H4,Tryz.f139,e1,e2,e3,af,aH,an,ao,aG,ag,ai,aO,aj,ak,aC,az,FP.none,aY,au,bf,dB,av,bL,partOf,aa,ae,ab,bh,bm,bS,bD,bc,hc,hc0,hc2,hnn,uB,uW,sD,sB,sW,aD,aB,aW,zW,wf0,wf1,aP,aU,aZ,cf,bX,bE,br,aV,number,FP.free,cH,FP.apart]
set_option maxHeartbeats 1000000 in
theorem N3 (run:aq)(k:Nat)(n:Bool)(x y:Nat)(hla:(aA x).length<400000)(hlb:(aA y).length<400000)(hxy:y≤x)(hx:x≠0) :
  ∃ st,af (CC L1) run k H4 ⟨entry 42 [wh n (aA x),wh (!n) (aA y)],[],[]⟩=some (.ret,st)∧aV TT st.fr st.hp Tryz.f139.results.toList=some [bn (sgn n (x - y))]:=by
 have hv:val (cX (aA x).length (x - y))=x - y:=fh _ _ (Nat.lt_of_le_of_lt (Nat.sub_le _ _) (fy x))
 have hx0:(aA x).length≠0:=by
  have:=(cP (n:=x)).2 (by omega)
  omega
 have hc0:=fun hp dr=>nT run dr hp (aA x) (aA y) (bP _) (by omega) (bP _) (by omega)
 have hcz:decide (dL x y<0)=false:=by
  apply decide_eq_false
  unfold dL
  rw[if_neg (by omega)]
  by_cases h:x=y
  ·rw[if_pos h];omega
  ·rw[if_neg h];omega
 have hcz' : ¬ (dL x y<0):=by simpa using hcz
 rw[lp] at hc0
 have hc:=fun hp dr=>xl run dr hp (aA x) (aA y) (bP _) (by omega) (bP _) (by omega) (by rw[bQ,bQ];omega) (cw hxy) hx0
 rw[bQ,bQ] at hc
 have hc2:=fun hp dr=>kh run dr hp n (cX (aA x).length (x - y)) (gu _ _) (by rw[di];omega)
 rw[hv] at hc2
 generalize cX (aA x).length (x - y)=m at *
 obtain⟨e1,e2,e3⟩:=cn 40 (wh n (aA x)) (wh (!n) (aA y))
 generalize entry 42 [wh n (aA x),wh (!n) (aA y)]=fr0 at *
 have e4:∀ n l,wh n l = .agg [.sc (.bool n),aL l]:=fun _ _=>rfl
 rw[e4] at e2 e3
 simp only[whW] at hc2 ⊢
 generalize aA (sgn n (x - y)).natAbs=r at *
 generalize bt (sgn n (x - y))=nn at *
 have hnn:(n == !n)=false:=by cases n <;> rfl
 simp only[Ab.bC] at hc0
 generalize dL x y=cc at *
 simp[H4,Tryz.f139,e1,e2,e3,af,aH,an,ao,aG,ag,ai,aO,aj,ak,aC,az,FP.none,aY,au,bf,dB,av,bL,partOf,aa,ae,ab,bh,bm,bS,bD,bc,hc,hc0,hc2,hnn,hcz',uB,uW,sD,sB,sW,aD,aB,aW,zW,wf0,wf1,aP,aU,aZ,cf,bX,bE,br,aV,number,FP.free,cH,FP.apart]
theorem qP (n:Bool)(v:Nat):sgn n v=if n=true then -(v:Int) else (v:Int):=by
 cases n with
 | false=>rfl
 | true =>
  show Int.negOfNat v=_
  cases v <;> rfl
theorem WE {x y:Int}(h:bt x=bt y):sgn (bt x) (x.natAbs+y.natAbs)=x+y:=by
 rw[qP]
 rw[cI,cI] at h
 rw[cI]
 by_cases hx:x<0 <;> by_cases hy:y<0 <;> simp[hx,hy] at h ⊢ <;> omega
theorem Pr {x y:Int}(h : ¬ bt x=bt y)(hl:x.natAbs<y.natAbs):sgn (!bt x) (y.natAbs - x.natAbs)=x+y:=by
 rw[qP]
 rw[cI,cI] at h
 rw[cI]
 by_cases hx:x<0 <;> by_cases hy:y<0 <;> simp[hx,hy] at h ⊢ <;> omega
theorem Pq {x y:Int}(h : ¬ bt x=bt y)(hl:y.natAbs≤x.natAbs):sgn (bt x) (x.natAbs - y.natAbs)=x+y:=by
 rw[qP]
 rw[cI,cI] at h
 rw[cI]
 by_cases hx:x<0 <;> by_cases hy:y<0 <;> simp[hx,hy] at h ⊢ <;> omega
theorem U7 (run:aq)(k:Nat)(x y:Int)(hx:Sm x)(hy:Sm y) :
  ∃ st,af (CC L1) run k H4 ⟨entry 42 [bn x,bn y],[],[]⟩=some (.ret,st)∧aV TT st.fr st.hp Tryz.f139.results.toList=some [bn (x+y)]:=by
 by_cases hn:bt x=bt y
 ·have:=N5 run k (bt x) (aA x.natAbs) (aA y.natAbs) (bP _) hx (bP _) hy
  rw[bQ,bQ] at this
  rw[WE hn] at this
  simp only[bn]
  rw[← hn];exact this
 ·have hn':bt y = !bt x:=by
   revert hn;cases bt x <;> cases bt y <;> simp
  by_cases hxy:x.natAbs<y.natAbs
  ·have:=N4 run k (bt x) x.natAbs y.natAbs hx hy hxy
   rw[Pr hn hxy] at this
   simp only[bn]
   rw[hn'];exact this
  ·have hx0:x.natAbs≠0:=by
    intro h0
    have:y.natAbs=0:=by omega
    have hx:x=0:=by omega
    have hy:y=0:=by omega
    subst hx;subst hy
    exact hn rfl
   have:=N3 run k (bt x) x.natAbs y.natAbs hx hy (by omega) hx0
   rw[Pq hn (by omega)] at this
   simp only[bn]
   rw[hn'];exact this
def tE:List PV→Option (List PV)
 | [p,q]=>match fL p,fL q with
  | some x,some y=>some [bn (x+y)]
  | _,_=>none
 | _=>none
theorem qu:Ab.Spec base.P 139 tE:=Ab.Spec.bN (C:=CC L1) (cU Ky) fun args rs h=>by
 unfold tE at h
 split at h
 ·split at h
  ·rename_i x y ex ey
   obtain⟨rfl,hx⟩:=dR ex
   obtain⟨rfl,hy⟩:=dR ey
   simp only[Option.some.injEq] at h
   subst h
   obtain⟨st,e1,e2⟩:=U7 (runK (CC L1) 1) 1 x y hx hy
   exact⟨2,_,_,_,_,_,aQ VG rfl e1 e2,iX _ _,Wk.refl rfl,trivial⟩
  ·cases h
 ·cases h
end Go.Proofs.YtjdmodeenbdfpaaGreat
