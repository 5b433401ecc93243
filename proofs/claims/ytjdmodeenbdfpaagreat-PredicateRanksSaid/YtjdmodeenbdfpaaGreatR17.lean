/- Contracts of num's integers, part 17 of the proof; each lemma states its own conditions. -/
import Derived.Test.YtjdmodeenbdfpaaGreatR16
set_option linter.unusedSimpArgs false
set_option linter.unusedVariables false
namespace Go.Proofs.YtjdmodeenbdfpaaGreat
open Go Go.Ab
noncomputable def mulC:Code:=Tryz.f105.body.getD .skip
noncomputable def mY:Code:=((Tryz.f105.body).bind az).getD .skip
noncomputable def Mh:Code:=(az mY).getD .skip
abbrev hpM (b0 b1 b2:Blk)(out:List Nat):List Blk:=[b0,b1,b2,⟨.live,out.map dg⟩]
theorem Sb (L:Lst)(run:ar)(k:Nat)(fr:List PV)(hp:List Blk)(wr:List Nat)(n:Nat)(h78:fr.length=78)(h29:nth fr 29 = .sc (.int .i64 (n:Int)))(h30:nth fr 30 = .sc (.int .i64 (n:Int))) :
  ∃ fr',af (CC L) run k Mh ⟨fr,hp,wr⟩=some (.exit 2,⟨fr',hp,wr⟩)∧fr'.length=78∧nth fr' 2=nth fr 2∧nth fr' 3=nth fr 3∧nth fr' 4=nth fr 4∧nth fr' 5=nth fr 5∧nth fr' 6=nth fr 6∧nth fr' 8=nth fr 8∧nth fr' 20=nth fr 20∧nth fr' 21=nth fr 21∧nth fr' 22=nth fr 22:=by
 simp[Mh,mY,Tryz.f105,az,af,aJ,ao,aq,aH,ag,ai,aj,an,aF,aC,FP.none,bd,au,bj,aa,ae,ab,h78,h29,h30]
set_option maxHeartbeats 4000000 in
theorem Gr (L:Lst)(run:ar)(k:Nat)(fr:List PV)(b0 b1 b2:Blk)(wr:List Nat)(b out:List Nat)(i j c x q r:Nat)(hb:Dok b)(ho:Dok out)(hx:x<1000000000)(hc:c<1000000000)(hj:j<b.length)(hij:i+j<out.length)(hl:out.length<1000000)
  (h78:fr.length=78) (h5:nth fr 5 = .own 3 1 0 out.length true) (h6:nth fr 6 = .sc (.int .i64 (i:Int))) (h7:nth fr 7 = .sc (.int .u32 (x:Int))) (h8:nth fr 8 = .sc (.int .u64 (c:Int)))
  (h28:nth fr 28=aM b) (h29:nth fr 29 = .sc (.int .i64 (b.length:Int))) (h30:nth fr 30 = .sc (.int .i64 (j:Int))) (hr:r=(c+(x*at0 b j+at0 out (i+j))) % 1000000000) (hq:q=(c+(x*at0 b j+at0 out (i+j))) / 1000000000) :
  ∃ fr' wr',af (CC L) run k Mh ⟨fr,hpM b0 b1 b2 out,wr⟩=some (.normal,⟨fr',hpM b0 b1 b2 (out.set (i+j) r),wr'⟩)∧fr'.length=78∧nth fr' 8 = .sc (.int .u64 (q:Int))∧nth fr' 30 = .sc (.int .i64 ((j+1:Nat):Int))
   ∧ nth fr' 2=nth fr 2∧nth fr' 3=nth fr 3∧nth fr' 4=nth fr 4∧nth fr' 5=nth fr 5∧nth fr' 6=nth fr 6∧nth fr' 7=nth fr 7∧nth fr' 20=nth fr 20∧nth fr' 21=nth fr 21∧nth fr' 22=nth fr 22∧nth fr' 28=nth fr 28∧nth fr' 29=nth fr 29:=by
 have hdb:=eJ b j hj
 have hdo:=eJ out (i+j) hij
 have hby:=hb.get hj
 have hoy:=ho.get hij
 have hov:=ja out (i+j) r hij
 rw[de hj,de hij] at hr hq
 generalize b[j]=y at *
 generalize out[i+j]=o at *
 have e2:aM b = .imm b.length false (b.map dg):=rfl
 have hdy:dg y = .sc (.int .u32 (y:Int)):=rfl
 have hdo':dg o = .sc (.int .u32 (o:Int)):=rfl
 rw[e2] at h28;rw[hdy] at hdb;rw[hdo'] at hdo
 have hxy:x*y≤999999999*999999999:=Nat.mul_le_mul (by omega) (by omega)
 obtain⟨s1,hs1⟩:∃ s1,s1=x*y:=⟨_,rfl⟩
 rw[← hs1] at hr hq hxy
 obtain⟨s2,hs2⟩:∃ s2,s2=s1+o:=⟨_,rfl⟩
 rw[← hs2] at hr hq
 obtain⟨s3,hs3⟩:∃ s3,s3=c+s2:=⟨_,rfl⟩
 rw[← hs3] at hr hq
 have hw0:=cu .u64 x (dB (by omega))
 have hw1:=cu .u64 y (dB (by omega))
 have hw2:=cu .u64 o (dB (by omega))
 have hw3:=wrapM .u64 x y s1 hs1 (dB (by omega))
 have hw4:=dp .u64 s1 o s2 hs2 (dB (by omega))
 have hw5:=dp .u64 c s2 s3 hs3 (dB (by omega))
 have hw6:=jr .u64 s3 q hq (dB (by omega))
 have hw9:bA .u32 (r:Int)=(r:Int):=cu .u32 r (iB (by omega))
 have hw7:=dp .i64 i j (i+j) rfl (hiI (by omega))
 obtain⟨p,hp⟩:∃ p,p=i+j:=⟨_,rfl⟩
 have hwj:=bE j (by omega)
 rw[← hp] at hw7 hdo hov hij ⊢
 have hw8:=kS s3 r hr
 simp[Mh,mY,Tryz.f105,az,af,aJ,ao,aq,aH,ag,ai,aj,an,aF,aC,FP.none,bd,au,bj,aw,bc,bm,partOf,aa,ae,ab,bh,and_assoc,bg,du,fV,h78,h5,h6,h7,h8,h28,h29,h30,uD,u32,u64,s32,a32,dF,hj,hij,hdb,hdo,aU,aV,bO,hw0,hw1,hw2,hw3,hw4,hw5,hw6,hw7,hw8,hw9,hwj,hov,gN r]
theorem fW {l:List Nat}{p m y:Nat}(h:p≠m):at0 (l.set p y) m=at0 l m:=by
 simp[at0,List.getElem?_set_ne h]
theorem A8 (l:List Nat)(p y:Nat)(h:p<l.length):val (l.set p y)+at0 l p*1000000000 ^ p=val l+y*1000000000 ^ p:=by
 rw[de h];exact pj l p y h
theorem R0 {V0 vo vo' c x y o P Q q r vb:Nat}(h:vo+c*P=V0+x*vb*Q)(hv:vo'+o*P=vo+r*P)(hr:r=(c+(x*y+o)) % 1000000000)(hq:q=(c+(x*y+o)) / 1000000000)(R:Nat)(hP:P=R*Q) :
  vo'+q*(P*1000000000)=V0+x*(vb+y*R)*Q:=by
 have e:c+(x*y+o)=r+1000000000*q:=by omega
 have e2:(c+(x*y+o))*P=(r+1000000000*q)*P:=by rw[e]
 simp only[Nat.add_mul] at e2
 have e3:1000000000*q*P=q*(P*1000000000):=by grind
 have e4:x*(vb+y*R)*Q=x*vb*Q+x*y*P:=by subst hP;grind
 rw[e4]
 omega
def Kept (fr fr':List PV):Prop:=nth fr' 2=nth fr 2∧nth fr' 3=nth fr 3∧nth fr' 4=nth fr 4∧nth fr' 5=nth fr 5∧nth fr' 6=nth fr 6∧nth fr' 20=nth fr 20∧nth fr' 21=nth fr 21∧nth fr' 22=nth fr 22
theorem yJ (L:Lst)(run:ar)(k:Nat)(b0 b1 b2:Blk)(b:List Nat)(i x V0:Nat)(hb:Dok b)(hx:x<1000000000):∀ (n j:Nat) (fr:List PV) (wr:List Nat) (out:List Nat) (c:Nat),j+n=b.length→Dok out→c<1000000000→i+b.length≤out.length→out.length<1000000 →
  fr.length=78→nth fr 5 = .own 3 1 0 out.length true→nth fr 6 = .sc (.int .i64 (i:Int))→nth fr 7 = .sc (.int .u32 (x:Int))→nth fr 8 = .sc (.int .u64 (c:Int)) →
  nth fr 28=aM b→nth fr 29 = .sc (.int .i64 (b.length:Int))→nth fr 30 = .sc (.int .i64 (j:Int))→val out+c*1000000000 ^ (i+j)=V0+x*val (b.take j)*1000000000 ^ i →
  ∃ (fr':List PV) (wr':List Nat) (out':List Nat) (c':Nat),cl (af (CC L) run k Mh) (n+1) ⟨fr,hpM b0 b1 b2 out,wr⟩=some (.exit 2,⟨fr',hpM b0 b1 b2 out',wr'⟩)∧fr'.length=78∧Kept fr fr'∧nth fr' 8 = .sc (.int .u64 (c':Int))
   ∧ Dok out'∧c'<1000000000∧out'.length=out.length∧val out'+c'*1000000000 ^ (i+b.length)=V0+x*val b*1000000000 ^ i∧∀ m,i+b.length≤m→at0 out' m=at0 out m
 | 0,j,fr,wr,out,c,hj,ho,hc,hil,hl,h78,h5,h6,h7,h8,h28,h29,h30,hv=>by
  have:j=b.length:=by omega
  subst this
  obtain⟨fr',g1,g2,g3,g4,g5,g6,g7,g8,g9,g10,g11⟩:=Sb L run k fr (hpM b0 b1 b2 out) wr b.length h78 h29 h30
  exact⟨fr',wr,out,c,bD g1,g2,⟨g3,g4,g5,g6,g7,g9,g10,g11⟩,by rw[g8,h8],ho,hc,rfl,by rw[hv,List.take_length],fun m _=>rfl⟩
 | n+1,j,fr,wr,out,c,hj,ho,hc,hil,hl,h78,h5,h6,h7,h8,h28,h29,h30,hv=>by
  have hy:=cw hb j
  have hoo:=cw ho (i+j)
  have hxy:x*at0 b j≤999999999*999999999:=Nat.mul_le_mul (by omega) (by omega)
  obtain⟨fr1,wr1,g1,g2,g3,g4,g5,g6,g7,g8,g9,g10,g11,g12,g13,g14,g15⟩:=Gr L run k fr b0 b1 b2 wr b out i j c x _ _ hb ho hx hc (by omega) (by omega) hl h78 h5 h6 h7 h8 h28 h29 h30 rfl rfl
  obtain⟨fr',wr',out',c',q1,q2,q3,q4,q5,q6,q7,q8,q9⟩:=yJ L run k b0 b1 b2 b i x V0 hb hx n (j+1) fr1 wr1 _ _ (by omega) (ho.set (i+j) (Nat.mod_lt _ (by omega)))
   (show (c+(x*at0 b j+at0 out (i+j))) / 1000000000<1000000000 by omega) (by rw[List.length_set];exact hil) (by rw[List.length_set];exact hl) g2 (by rw[g8,h5,List.length_set]) (by rw[g9,h6]) (by rw[g10,h7]) g3 (by rw[g14,h28]) (by rw[g15,h29]) g4
   (by
    have hvs:=A8 out (i+j) ((c+(x*at0 b j+at0 out (i+j))) % 1000000000) (by omega)
    rw[cD,show i+(j+1)=i+j+1 by omega,Nat.pow_succ]
    exact R0 hv hvs rfl rfl (1000000000 ^ j) (by rw[Nat.pow_add,Nat.mul_comm]))
  obtain⟨k1,k2,k3,k4,k5,k6,k7,k8⟩:=q3
  refine⟨fr',wr',out',c',by rw[ch g1];exact q1,q2,⟨by rw[k1,g5],by rw[k2,g6],by rw[k3,g7],by rw[k4,g8],by rw[k5,g9],by rw[k6,g11],by rw[k7,g12],by rw[k8,g13]⟩,q4,q5,q6,by rw[q7,List.length_set],q8,fun m hm => ?_⟩
  rw[q9 m hm,fW (by omega)]
noncomputable def oC:Code:=match ah 2 mY with | .seq (.block _ c) _=>c | c=>c
noncomputable def Sa:Code:=match ah 2 mY with | .seq _ c=>c | c=>c
theorem Gp:ah 2 mY = .seq (.block 1 oC) Sa:=rfl
noncomputable def R4:Code:=seq1 (seq1 (ah 2 oC))
theorem CM:ah 2 oC = .seq (.seq R4 (.block 2 (.loop Mh))) (ah 3 oC):=rfl
theorem R8 (L:Lst)(run:ar)(k:Nat)(fr:List PV)(hp:List Blk)(wr:List Nat)(n:Nat)(h78:fr.length=78)(h21:nth fr 21 = .sc (.int .i64 (n:Int)))(h22:nth fr 22 = .sc (.int .i64 (n:Int))) :
  ∃ fr',af (CC L) run k mY ⟨fr,hp,wr⟩=some (.exit 0,⟨fr',hp,wr⟩)∧fr'.length=78∧nth fr' 2=nth fr 2∧nth fr' 3=nth fr 3∧nth fr' 4=nth fr 4∧nth fr' 5=nth fr 5:=by
 simp[mY,Tryz.f105,az,af,aJ,ao,aq,aH,ag,ai,aj,an,aF,aC,FP.none,bd,au,bj,aa,ae,ab,h78,h21,h22]
theorem R7 (L:Lst)(run:ar)(k:Nat)(fr:List PV)(hp:List Blk)(wr:List Nat)(i n:Nat)(hi:i<n)(h78:fr.length=78)(h21:nth fr 21 = .sc (.int .i64 (n:Int)))(h22:nth fr 22 = .sc (.int .i64 (i:Int))) :
  ∃ fr',aY (CC L) run k 2 mY ⟨fr,hp,wr⟩=some ⟨fr',hp,wr⟩∧fr'.length=78∧nth fr' 2=nth fr 2∧nth fr' 3=nth fr 3∧nth fr' 4=nth fr 4∧nth fr' 5=nth fr 5∧nth fr' 20=nth fr 20∧nth fr' 21=nth fr 21∧nth fr' 22=nth fr 22:=by
 simp[mY,Tryz.f105,az,aY,af,aJ,ao,aq,aH,ag,ai,aj,an,aF,aC,FP.none,bd,au,bj,aa,ae,ab,h78,h21,h22,hi]
theorem Mg (L:Lst)(run:ar)(k:Nat)(fr:List PV)(hp:List Blk)(wr:List Nat)(a:List Nat)(i:Nat)(hi:i<a.length)(h78:fr.length=78)(h20:nth fr 20=aM a)(h22:nth fr 22 = .sc (.int .i64 (i:Int))) :
  ∃ fr',aY (CC L) run k 2 oC ⟨fr,hp,wr⟩=some ⟨fr',hp,wr⟩∧fr'.length=78∧nth fr' 6 = .sc (.int .i64 (i:Int))∧nth fr' 7 = .sc (.int .u32 (at0 a i:Int))∧nth fr' 8 = .sc (.int .u64 (0:Nat))∧nth fr' 2=nth fr 2∧nth fr' 3=nth fr 3∧nth fr' 4=nth fr 4∧nth fr' 5=nth fr 5∧nth fr' 20=nth fr 20∧nth fr' 21=nth fr 21∧nth fr' 22=nth fr 22:=by
 have hda:=eJ a i hi
 rw[de hi]
 generalize a[i]=x at *
 have e2:aM a = .imm a.length false (a.map dg):=rfl
 have hdx:dg x = .sc (.int .u32 (x:Int)):=rfl
 rw[e2] at h20;rw[hdx] at hda
 simp[oC,mY,Tryz.f105,az,ah,aY,af,aJ,ao,aq,aH,ag,ai,aj,an,aF,aC,FP.none,aw,bc,bm,partOf,aa,ae,ab,bh,h78,h20,h22,hi,uD,s32,a32,hda,aU]
theorem R3 (L:Lst)(run:ar)(k:Nat)(fr:List PV)(b0 b2 b3:Blk)(wr:List Nat)(nb:Bool)(b:List Nat)(h78:fr.length=78)(h3:nth fr 3 = .ptr 1 0) :
  ∃ fr',af (CC L) run k R4 ⟨fr,[b0,⟨.live,[.sc (.bool nb),aM b]⟩,b2,b3],wr⟩=some (.normal,⟨fr',[b0,⟨.live,[.sc (.bool nb),aM b]⟩,b2,b3],wr⟩)∧fr'.length=78∧nth fr' 28=aM b∧nth fr' 29 = .sc (.int .i64 (b.length:Int))∧nth fr' 30 = .sc (.int .i64 (0:Nat))
   ∧ nth fr' 2=nth fr 2∧nth fr' 3=nth fr 3∧nth fr' 4=nth fr 4∧nth fr' 5=nth fr 5∧nth fr' 6=nth fr 6∧nth fr' 7=nth fr 7∧nth fr' 8=nth fr 8∧nth fr' 20=nth fr 20∧nth fr' 21=nth fr 21∧nth fr' 22=nth fr 22:=by
 simp[R4,oC,mY,Tryz.f105,az,ah,seq1,af,aJ,ao,aq,aH,ag,ai,aj,an,aF,aC,FP.none,aw,bM,bL,partOf,aa,ae,ab,bh,ct,h78,h3,uW,uD,sD,aD,wf0,wf1,aU,aV,br]
theorem R6 (L:Lst)(run:ar)(k:Nat)(fr:List PV)(b0 b2:Blk)(wr:List Nat)(nb:Bool)(b out:List Nat)(i c:Nat)(hc:c<1000000000)(hi:i+b.length<out.length)(hl:out.length<1000000)
  (h78:fr.length=78) (h3:nth fr 3 = .ptr 1 0) (h5:nth fr 5 = .own 3 1 0 out.length true) (h6:nth fr 6 = .sc (.int .i64 (i:Int))) (h8:nth fr 8 = .sc (.int .u64 (c:Int))) :
  ∃ fr' wr',af (CC L) run k (ah 3 oC) ⟨fr,hpM b0 ⟨.live,[.sc (.bool nb),aM b]⟩ b2 out,wr⟩=some (.normal,⟨fr',hpM b0 ⟨.live,[.sc (.bool nb),aM b]⟩ b2 (out.set (i+b.length) c),wr'⟩)∧fr'.length=78
   ∧ nth fr' 2=nth fr 2∧nth fr' 3=nth fr 3∧nth fr' 4=nth fr 4∧nth fr' 5=nth fr 5∧nth fr' 20=nth fr 20∧nth fr' 21=nth fr 21∧nth fr' 22=nth fr 22:=by
 have hw7:=dp .i64 i b.length (i+b.length) rfl (hiI (by omega))
 have hov:=ja out (i+b.length) c hi
 have hw9:bA .u32 (c:Int)=(c:Int):=cu .u32 c (iB (by omega))
 obtain⟨p,hp⟩:∃ p,p=i+b.length:=⟨_,rfl⟩
 rw[← hp] at hw7 hov hi ⊢
 simp[oC,mY,Tryz.f105,az,ah,af,aJ,ao,aq,aH,ag,ai,aj,an,aF,aC,FP.none,bd,au,bj,bM,bc,bL,bm,partOf,aa,ae,ab,bh,and_assoc,ct,bg,du,fV,h78,h3,h5,h6,h8,uW,uD,u32,u64,sD,s32,aD,wf0,wf1,dF,aU,aV,bO,br,hw7,hw9,hov,hi,gN c]
theorem R9 (L:Lst)(run:ar)(k:Nat)(fr:List PV)(hp:List Blk)(wr:List Nat)(i:Nat)(hi:i<1000000)(h78:fr.length=78)(h22:nth fr 22 = .sc (.int .i64 (i:Int))) :
  ∃ fr',af (CC L) run k Sa ⟨fr,hp,wr⟩=some (.normal,⟨fr',hp,wr⟩)∧fr'.length=78∧nth fr' 22 = .sc (.int .i64 ((i+1:Nat):Int))∧nth fr' 2=nth fr 2∧nth fr' 3=nth fr 3∧nth fr' 4=nth fr 4∧nth fr' 5=nth fr 5∧nth fr' 20=nth fr 20∧nth fr' 21=nth fr 21:=by
 have hw:=bE i (by omega)
 simp[Sa,mY,Tryz.f105,az,ah,af,aJ,ao,aq,aH,ag,ai,aj,an,aF,aC,FP.none,bd,au,bj,aw,aa,ae,ab,h78,h22,hw]
theorem Gq (L:Lst)(run:ar)(k:Nat)(fr:List PV)(b0 b2:Blk)(wr:List Nat)(nb:Bool)(a b out:List Nat)(i:Nat)(ha:Dok a)(hb:Dok b)(ho:Dok out)(hi:i<a.length)(hil:out.length=a.length+b.length)(hl:out.length<1000000)(hk:b.length<k)
  (h78:fr.length=78) (h3:nth fr 3 = .ptr 1 0) (h5:nth fr 5 = .own 3 1 0 out.length true) (h20:nth fr 20=aM a) (h21:nth fr 21 = .sc (.int .i64 (a.length:Int))) (h22:nth fr 22 = .sc (.int .i64 (i:Int)))
  (hz:∀ m,i+b.length≤m→at0 out m=0) (hv:val out=val (a.take i)*val b) :
  ∃ (fr':List PV) (wr':List Nat) (out':List Nat),af (CC L) run k mY ⟨fr,hpM b0 ⟨.live,[.sc (.bool nb),aM b]⟩ b2 out,wr⟩=some (.normal,⟨fr',hpM b0 ⟨.live,[.sc (.bool nb),aM b]⟩ b2 out',wr'⟩)∧fr'.length=78
   ∧ nth fr' 2=nth fr 2∧nth fr' 3 = .ptr 1 0∧nth fr' 4=nth fr 4∧nth fr' 5 = .own 3 1 0 out'.length true∧nth fr' 20=aM a∧nth fr' 21 = .sc (.int .i64 (a.length:Int))∧nth fr' 22 = .sc (.int .i64 ((i+1:Nat):Int))
   ∧ Dok out'∧out'.length=out.length∧(∀ m,i+1+b.length≤m→at0 out' m=0)∧val out'=val (a.take (i+1))*val b:=by
 obtain⟨f1,p1,p2,p3,p4,p5,p6,p7,p8,p9⟩:=R7 L run k fr (hpM b0 ⟨.live,[.sc (.bool nb),aM b]⟩ b2 out) wr i a.length hi h78 h21 h22
 obtain⟨f2,q1,q2,q3,q4,q5,q6,q7,q8,q9,q10,q11,q12⟩:=Mg L run k f1 (hpM b0 ⟨.live,[.sc (.bool nb),aM b]⟩ b2 out) wr a i hi p2 (by rw[p7,h20]) (by rw[p9,h22])
 obtain⟨f3,r1,r2,r3,r4,r5,r6,r7,r8,r9,r10,r11,r12,r13,r14,r15⟩:=R3 L run k f2 b0 b2 ⟨.live,out.map dg⟩ wr nb b q2 (by rw[q7,p4,h3])
 have hx:=cw ha i
 obtain⟨f4,wr4,out4,c,t1,t2,t3,t4,t5,t6,t7,t8,t9⟩:=yJ L run k b0 ⟨.live,[.sc (.bool nb),aM b]⟩ b2 b i (at0 a i) (val (a.take i)*val b) hb hx b.length 0 f3 wr out 0 (by omega) ho (by omega) (by omega) hl r2
  (by rw[r9,q9,p6,h5]) (by rw[r10,q3]) (by rw[r11,q4]) (by rw[r12,q5]) r3 r4 r5 (by rw[List.take_zero,hv];simp[val])
 obtain⟨k1,k2,k3,k4,k5,k6,k7,k8⟩:=t3
 have h54:nth f4 5 = .own 3 1 0 out4.length true:=by rw[k4,r9,q9,p6,h5,t7]
 obtain⟨f5,wr5,u1,u2,u3,u4,u5,u6,u7,u8,u9⟩:=R6 L run k f4 b0 b2 wr4 nb b out4 i c t6 (by omega) (by omega) t2 (by rw[k2,r7,q7,p4,h3]) h54 (by rw[k5,r10,q3]) t4
 obtain⟨f6,w1,w2,w3,w4,w5,w6,w7,w8,w9⟩:=R9 L run k f5 (hpM b0 ⟨.live,[.sc (.bool nb),aM b]⟩ b2 (out4.set (i+b.length) c)) wr5 i (by omega) u2 (by rw[u9,k8,r15,q12,p9,h22])
 refine⟨f6,wr5,out4.set (i+b.length) c,?_,w2,?_,?_,?_,?_,?_,?_,w3,t5.set _ t6,?_,?_,?_⟩
 ·rw[aP 2 p1,Gp]
  have hB:af (CC L) run k oC ⟨f1,hpM b0 ⟨.live,[.sc (.bool nb),aM b]⟩ b2 out,wr⟩=some (.normal,⟨f5,hpM b0 ⟨.live,[.sc (.bool nb),aM b]⟩ b2 (out4.set (i+b.length) c),wr5⟩):=by
   rw[aP 2 q1,CM,av ((av r1).trans (bH (ca t1 (by omega))))]
   exact u1
  rw[av (dW hB)]
  exact w1
 ·rw[w4,u3,k1,r6,q6,p3]
 ·rw[w5,u4,k2,r7,q7,p4,h3]
 ·rw[w6,u5,k3,r8,q8,p5]
 ·rw[w7,u6,h54,List.length_set]
 ·rw[w8,u7,k6,r13,q10,p7,h20]
 ·rw[w9,u8,k7,r14,q11,p8,h21]
 ·rw[List.length_set,t7]
 ·intro m hm
  rw[fW (by omega),t9 m (by omega),hz m (by omega)]
 ·have hs:=A8 out4 (i+b.length) c (by omega)
  rw[t9 _ (Nat.le_refl _),hz _ (Nat.le_refl _),Nat.zero_mul,Nat.add_zero,t8] at hs
  rw[hs,cD,Nat.add_mul]
  grind
theorem yI (L:Lst)(run:ar)(k:Nat)(b0 b2:Blk)(nb:Bool)(a b:List Nat)(ha:Dok a)(hb:Dok b)(hl:a.length+b.length<1000000)(hk:b.length<k):∀ (n i:Nat) (fr:List PV) (wr:List Nat) (out:List Nat),i+n=a.length→Dok out→out.length=a.length+b.length →
  fr.length=78→nth fr 3 = .ptr 1 0→nth fr 5 = .own 3 1 0 out.length true→nth fr 20=aM a→nth fr 21 = .sc (.int .i64 (a.length:Int))→nth fr 22 = .sc (.int .i64 (i:Int))→(∀ m,i+b.length≤m→at0 out m=0)→val out=val (a.take i)*val b →
  ∃ (fr':List PV) (wr':List Nat) (out':List Nat),cl (af (CC L) run k mY) (n+1) ⟨fr,hpM b0 ⟨.live,[.sc (.bool nb),aM b]⟩ b2 out,wr⟩=some (.exit 0,⟨fr',hpM b0 ⟨.live,[.sc (.bool nb),aM b]⟩ b2 out',wr'⟩)∧fr'.length=78
   ∧ nth fr' 2=nth fr 2∧nth fr' 3 = .ptr 1 0∧nth fr' 4=nth fr 4∧nth fr' 5 = .own 3 1 0 out'.length true∧Dok out'∧out'.length=a.length+b.length∧val out'=val a*val b
 | 0,i,fr,wr,out,hi,ho,hil,h78,h3,h5,h20,h21,h22,hz,hv=>by
  have:i=a.length:=by omega
  subst this
  obtain⟨fr',g1,g2,g3,g4,g5,g6⟩:=R8 L run k fr (hpM b0 ⟨.live,[.sc (.bool nb),aM b]⟩ b2 out) wr a.length h78 h21 h22
  exact⟨fr',wr,out,bD g1,g2,g3,by rw[g4,h3],g5,by rw[g6,h5],ho,hil,by rw[hv,List.take_length]⟩
 | n+1,i,fr,wr,out,hi,ho,hil,h78,h3,h5,h20,h21,h22,hz,hv=>by
  obtain⟨f1,wr1,Gj,g1,g2,g3,g4,g5,g6,g7,g8,g9,g10,g11,g12,g13⟩:=Gq L run k fr b0 b2 wr nb a b out i ha hb ho (by omega) hil (by omega) hk h78 h3 h5 h20 h21 h22 hz hv
  obtain⟨fr',wr',out',q1,q2,q3,q4,q5,q6⟩:=yI L run k b0 b2 nb a b ha hb hl hk n (i+1) f1 wr1 Gj (by omega) g10 (by omega) g2 g4 g6 g7 g8 g9 g12 g13
  exact⟨fr',wr',out',by rw[ch g1];exact q1,q2,by rw[q3,g3],q4,by rw[q5,g5],q6⟩
noncomputable def R5:Code:=seq1 (seq1 (ah 2 mulC))
theorem Mf:ah 2 mulC = .seq (.seq R5 (.block 0 (.loop mY))) (ah 3 mulC):=rfl
theorem YC (L:Lst)(run:ar)(k:Nat)(na nb:Bool)(a b:List Nat)(hl:a.length+b.length<1000000) :
  ∃ fr wr,aY (CC L) run k 2 mulC ⟨entry 78 [wh na a,wh nb b],[],[]⟩=some ⟨fr,hpM ⟨.live,[.sc (.bool na),aM a]⟩ ⟨.live,[.sc (.bool nb),aM b]⟩ ⟨.live,[.sc (.bool false),.sc (.slice none 0 0)]⟩ (List.replicate (a.length+b.length) 0),wr⟩∧fr.length=78
   ∧ nth fr 2 = .ptr 0 0∧nth fr 3 = .ptr 1 0∧nth fr 4 = .ptr 2 0∧nth fr 5 = .own 3 1 0 (a.length+b.length) true:=by
 obtain⟨e1,e2,e3⟩:=cC 76 (wh na a) (wh nb b)
 generalize entry 78 [wh na a,wh nb b]=fr0 at *
 have e4:∀ n l,wh n l = .agg [.sc (.bool n),aM l]:=fun _ _=>rfl
 rw[e4] at e2 e3
 have hw7:=dp .i64 a.length b.length (a.length+b.length) rfl (hiI (by omega))
 rw[show hpM ⟨.live,[.sc (.bool na),aM a]⟩ ⟨.live,[.sc (.bool nb),aM b]⟩ ⟨.live,[.sc (.bool false),.sc (.slice none 0 0)]⟩ (List.replicate (a.length+b.length) 0)=[⟨.live,[.sc (.bool na),aM a]⟩,⟨.live,[.sc (.bool nb),aM b]⟩,⟨.live,[.sc (.bool false),.sc (.slice none 0 0)]⟩,⟨.live,rep (a.length+b.length) [dg 0]⟩] by rw[qV]]
 have h1:a.length+b.length≤cY:=Nat.le_trans (Nat.le_of_lt hl) (by decide)
 generalize hp:a.length+b.length=p at *
 simp[mulC,Tryz.f105,aY,e1,e2,e3,af,aJ,ao,aq,aH,ag,ai,aj,an,aF,aC,FP.none,bd,au,bj,bM,bL,bm,partOf,aa,ae,ab,bh,and_assoc,ct,bn,uD,uW,sD,s32,b32,z32,zW,aD,wf0,wf1,aO,aU,aV,br,hw7,cn,h1]
theorem acr (L:Lst)(run:ar)(k:Nat)(fr:List PV)(b1 b2 b3:Blk)(wr:List Nat)(na:Bool)(a:List Nat)(h78:fr.length=78)(h2:nth fr 2 = .ptr 0 0) :
  ∃ fr',af (CC L) run k R5 ⟨fr,[⟨.live,[.sc (.bool na),aM a]⟩,b1,b2,b3],wr⟩=some (.normal,⟨fr',[⟨.live,[.sc (.bool na),aM a]⟩,b1,b2,b3],wr⟩)∧fr'.length=78∧nth fr' 20=aM a∧nth fr' 21 = .sc (.int .i64 (a.length:Int))∧nth fr' 22 = .sc (.int .i64 (0:Nat))
   ∧ nth fr' 2=nth fr 2∧nth fr' 3=nth fr 3∧nth fr' 4=nth fr 4∧nth fr' 5=nth fr 5:=by
 simp[R5,mulC,Tryz.f105,ah,seq1,af,aJ,ao,aq,aH,ag,ai,aj,an,aF,aC,FP.none,aw,bM,bL,partOf,aa,ae,ab,bh,ct,h78,h2,uW,uD,sD,aD,wf0,wf1,aU,aV,br]
theorem tz (run:ar)(dr:Bool)(b0 b1 b2:Blk)(n:Bool)(l:List Nat)(hd:Dok l)(hl:l.length<1000000) :
  cg (CC L1) run dr (hpM b0 b1 b2 l) 152 [.sc (.bool n),.own 3 1 0 l.length true]=some (bq (sgn n (val l)),[b0,b1,b2,⟨.ro,l.map dg⟩],⟨[3],[3],false,false⟩):=by
 have h1:bt (snap (hpM b0 b1 b2 l) bp) [.sc (.bool n),.own 3 1 0 l.length true]=some ([.sc (.bool n),.imm l.length true (l.map dg)],[3]):=by
  have hs:=jF (hpM b0 b1 b2 l) 10 l
  have:snap (hpM b0 b1 b2 l) 12 (.own 3 1 0 l.length true)=some (.imm l.length true (l.map dg),[3]):=by
   rw[snap]
   have h:aV (hpM b0 b1 b2 l) 3=some ⟨.live,l.map dg⟩:=rfl
   simp only[h]
   rw[if_neg (by simp),Bf]
   simp only[hs]
  simp only[bp,bt,this]
  rfl
 have h2:aK [.sc (.bool n),.imm l.length true (l.map dg)]=[.sc (.bool n),aM l]:=by
  simp only[aK,canon,iR];rfl
 have h3:(CC L1).orc 152 [.sc (.bool n),.imm l.length true (l.map dg)]=some [bq (sgn n (val l))]:=by
  show fv (aK [.sc (.bool n),.imm l.length true (l.map dg)])=_
  rw[h2]
  simp only[fv,cX hd hl]
 have:=eI (run:=run) (dr:=dr) nQ h1 h3 rfl
 rw[this]
 rfl
theorem R1 (run:ar)(k:Nat)(fr:List PV)(wr:List Nat)(na nb:Bool)(a b out:List Nat)(hd:Dok out)(hl:out.length<1000000)(h78:fr.length=78)(h2:nth fr 2 = .ptr 0 0)(h3:nth fr 3 = .ptr 1 0)(h4:nth fr 4 = .ptr 2 0)(h5:nth fr 5 = .own 3 1 0 out.length true) :
  ∃ st,af (CC L1) run k (ah 3 mulC) ⟨fr,hpM ⟨.live,[.sc (.bool na),aM a]⟩ ⟨.live,[.sc (.bool nb),aM b]⟩ ⟨.live,[.sc (.bool false),.sc (.slice none 0 0)]⟩ out,wr⟩=some (.ret,st)∧aZ TT st.fr st.hp Tryz.f105.results.toList=some [bq (sgn (na != nb) (val out))]:=by
 have hc:=fun dr=>tz run dr ⟨.live,[.sc (.bool na),aM a]⟩ ⟨.live,[.sc (.bool nb),aM b]⟩ ⟨.live,[.sc (.bool false),.sc (.slice none 0 0)]⟩ (na != nb) out hd hl
 simp only[whW] at hc ⊢
 generalize aG (sgn (na != nb) (val out)).natAbs=r at *
 generalize bx (sgn (na != nb) (val out))=nn at *
 cases na <;> cases nb <;> simp only[bne_self_eq_false,Bool.bne_true,Bool.bne_false,Bool.not_false] at hc <;>
  simp[mulC,Tryz.f105,ah,af,aJ,ao,aq,aH,ag,ai,aQ,aj,an,aF,aC,FP.none,bd,dE,bL,partOf,aa,ae,ab,bh,bn,bX,bC,bg,hc,h78,h2,h3,h4,h5,uB,uW,sB,sW,aB,aW,wf0,wf1,aU,aV,bO,br,cj,bG,aZ]
theorem V4 (x y:Int):sgn (bx x != bx y) (x.natAbs*y.natAbs)=x*y:=by
 rw[qQ,cN,cN,Int.natCast_mul]
 by_cases hx:x<0 <;> by_cases hy:y<0
 ·have e1:(x.natAbs:Int) = -x:=by omega
  have e2:(y.natAbs:Int) = -y:=by omega
  simp[hx,hy,e1,e2,Int.neg_mul,Int.mul_neg]
 ·have e1:(x.natAbs:Int) = -x:=by omega
  have e2:(y.natAbs:Int)=y:=by omega
  simp[hx,hy,e1,e2,Int.neg_mul]
 ·have e1:(x.natAbs:Int)=x:=by omega
  have e2:(y.natAbs:Int) = -y:=by omega
  simp[hx,hy,e1,e2,Int.mul_neg]
 ·have e1:(x.natAbs:Int)=x:=by omega
  have e2:(y.natAbs:Int)=y:=by omega
  simp[hx,hy,e1,e2]
theorem Nt (n m:Nat):at0 (List.replicate n 0) m=0:=by
 by_cases h:m<n
 ·simp[at0,h]
 ·simp[at0,h]
def xr:List PV→Option (List PV)
 | [p,q]=>match fD p,fD q with
  | some x,some y=>some [bq (x*y)]
  | _,_=>none
 | _=>none
theorem R2 (run:ar)(k:Nat)(x y:Int)(hx:Sm x)(hy:Sm y)(hk:(aG x.natAbs).length<k)(hk2:(aG y.natAbs).length<k) :
  ∃ st,af (CC L1) run k mulC ⟨entry 78 [bq x,bq y],[],[]⟩=some (.ret,st)∧aZ TT st.fr st.hp Tryz.f105.results.toList=some [bq (x*y)]:=by
 have hl:(aG x.natAbs).length+(aG y.natAbs).length<1000000:=by unfold Sm at hx hy;omega
 obtain⟨f1,wr1,p1,p2,p3,p4,p5,p6⟩:=YC L1 run k (bx x) (bx y) (aG x.natAbs) (aG y.natAbs) hl
 obtain⟨f2,q1,q2,q3,q4,q5,q6,q7,q8,q9⟩:=acr L1 run k f1 ⟨.live,[.sc (.bool (bx y)),aM (aG y.natAbs)]⟩ ⟨.live,[.sc (.bool false),.sc (.slice none 0 0)]⟩ ⟨.live,(List.replicate ((aG x.natAbs).length+(aG y.natAbs).length) 0).map dg⟩ wr1 (bx x) (aG x.natAbs) p2 p3
 obtain⟨f3,wr3,out,r1,r2,r3,r4,r5,r6,r7,r8,r9⟩:=yI L1 run k ⟨.live,[.sc (.bool (bx x)),aM (aG x.natAbs)]⟩ ⟨.live,[.sc (.bool false),.sc (.slice none 0 0)]⟩ (bx y) (aG x.natAbs) (aG y.natAbs) (bU _) (bU _) hl hk2 (aG x.natAbs).length 0 f2 wr1 (List.replicate ((aG x.natAbs).length+(aG y.natAbs).length) 0)
  (by omega) (Dok.HX _) (by simp) q2 (by rw[q7,p4]) (by rw[q9,p6,List.length_replicate]) q3 q4 q5 (fun m _=>Nt _ _) (by rw[nM];simp[val])
 obtain⟨st,e1,e2⟩:=R1 run k f3 wr3 (bx x) (bx y) (aG x.natAbs) (aG y.natAbs) out r7 (by omega) r2 (by rw[r3,q6,p3]) r4 (by rw[r5,q8,p5]) r6
 refine⟨st,?_,?_⟩
 ·rw[bq,bq,aP 2 p1,Mf,av ((av q1).trans (bH (ca r1 (by omega))))]
  exact e1
 ·rw[e2,r9,bZ,bZ,V4]
theorem pU:Ab.Spec base.P 105 xr:=Ab.Spec.bQ (C:=CC L1) (cV Jv) fun args rs h=>by
 unfold xr at h
 split at h
 ·split at h
  ·rename_i x y ex ey
   obtain⟨rfl,hx⟩:=dV ex
   obtain⟨rfl,hy⟩:=dV ey
   simp only[Option.some.injEq] at h
   subst h
   obtain⟨st,e1,e2⟩:=R2 (runK (CC L1) 400001) 400001 x y hx hy (by unfold Sm at hx;omega) (by unfold Sm at hy;omega)
   exact⟨400002,_,_,_,_,_,aX U4 rfl e1 e2,ji _ _,Wk.refl rfl,trivial⟩
  ·cases h
 ·cases h
noncomputable def lF:Code:=Tryz.f181.body.getD .skip
noncomputable def qN:Code:=((Tryz.f181.body).bind az).getD .skip
abbrev hp1 (out:List Nat):List Blk:=[⟨.live,out.map dg⟩]
theorem JY (L:Lst)(run:ar)(k:Nat)(fr:List PV)(hp:List Blk)(wr:List Nat)(h42:fr.length=42)(h8:nth fr 8 = .sc (.int .i64 (-1))) :
  ∃ fr',af (CC L) run k qN ⟨fr,hp,wr⟩=some (.exit 0,⟨fr',hp,wr⟩)∧fr'.length=42∧nth fr' 6=nth fr 6∧nth fr' 7=nth fr 7:=by
 simp[qN,Tryz.f181,az,af,aJ,ao,aq,aH,ag,ai,aj,an,aF,aC,FP.none,bd,au,bj,aw,aa,ae,ab,h42,h8]
set_option maxHeartbeats 2000000 in
theorem Bu (L:Lst)(run:ar)(k:Nat)(fr:List PV)(wr:List Nat)(a out:List Nat)(b m R q r:Nat)(ha:Dok a)(hb:0<b)(hb2:b<1000000000)(hR:R<b)(hm:m<a.length)(hl:out.length=a.length)(hl2:a.length<1000000)
  (h42:fr.length=42) (h0:nth fr 0=aM a) (h1:nth fr 1=dg b) (h6:nth fr 6 = .own 0 1 0 a.length true) (h7:nth fr 7 = .sc (.int .u64 (R:Int))) (h8:nth fr 8 = .sc (.int .i64 (m:Int)))
  (hq:q=(R*1000000000+at0 a m) / b) (hr:r=(R*1000000000+at0 a m) % b) :
  ∃ fr' wr',af (CC L) run k qN ⟨fr,hp1 out,wr⟩=some (.normal,⟨fr',hp1 (out.set m q),wr'⟩)∧fr'.length=42∧nth fr' 0=aM a∧nth fr' 1=dg b∧nth fr' 6 = .own 0 1 0 a.length true∧nth fr' 7 = .sc (.int .u64 (r:Int))∧nth fr' 8 = .sc (.int .i64 ((m:Int) - 1)):=by
 have hda:=eJ a m hm
 have hax:=ha.get hm
 have hov:=ja out m q (by omega)
 rw[de hm] at hq hr
 generalize a[m]=x at *
 have e1:aM a = .imm a.length false (a.map dg):=rfl
 have hdx:dg x = .sc (.int .u32 (x:Int)):=rfl
 have hdb:dg b = .sc (.int .u32 (b:Int)):=rfl
 rw[e1] at h0 ⊢;rw[hdx] at hda;rw[hdb] at h1 ⊢
 obtain⟨s1,hs1⟩:∃ s1,s1=R*1000000000:=⟨_,rfl⟩
 obtain⟨s2,hs2⟩:∃ s2,s2=s1+x:=⟨_,rfl⟩
 rw[← hs1,← hs2] at hq hr
 have hq9:q<1000000000:=by
  rw[hq]
  refine Nat.div_lt_of_lt_mul ?_
  have:(R+1)*1000000000≤b*1000000000:=Nat.mul_le_mul_right _ hR
  rw[Nat.add_mul] at this
  omega
 have hw0:=cu .u64 x (dB (by omega))
 have hwb:=cu .u64 b (dB (by omega))
 have hw1:=ly .u64 R s1 hs1 (dB (by omega))
 have hw2:=dp .u64 s1 x s2 hs2 (dB (by omega))
 have hw3:=aal .u64 s2 b q hq (dB (by omega))
 have hw4:=H9 s2 b r hr
 have hw5:bA .u32 (q:Int)=(q:Int):=cu .u32 q (iB (by omega))
 have hwm:=cR m (by omega)
 have hb0 : ¬ (b=0):=by omega
 simp[qN,Tryz.f181,az,af,aJ,ao,aq,aH,ag,ai,aj,an,aF,aC,FP.none,bd,au,bj,aw,bc,bm,partOf,aa,ae,ab,bh,and_assoc,bg,du,fV,h42,h0,h1,h6,h7,h8,uD,u32,u64,s32,a32,dF,hm,hda,aU,aV,bO,hw0,hwb,hw1,hw2,hw3,hw4,hw5,hwm,hov,hb0,gN q,number,FP.free]
theorem uF (L:Lst)(run:ar)(k:Nat)(a:List Nat)(b:Nat)(ha:Dok a)(hb:0<b)(hb2:b<1000000000)(hl2:a.length<1000000):∀ (m:Nat) (fr:List PV) (wr:List Nat) (out:List Nat) (R:Nat),m≤a.length→out.length=a.length →
  fr.length=42→nth fr 0=aM a→nth fr 1=dg b→nth fr 6 = .own 0 1 0 a.length true→nth fr 7 = .sc (.int .u64 (R:Int))→nth fr 8 = .sc (.int .i64 ((m:Int) - 1)) →
  R=val (a.drop m) % b→val (out.drop m)=val (a.drop m) / b→Dok out →
  ∃ (fr':List PV) (wr':List Nat) (out':List Nat),cl (af (CC L) run k qN) (m+1) ⟨fr,hp1 out,wr⟩=some (.exit 0,⟨fr',hp1 out',wr'⟩)∧fr'.length=42∧nth fr' 6 = .own 0 1 0 a.length true∧nth fr' 7 = .sc (.int .u64 ((val a % b:Nat):Int))∧out'.length=a.length∧Dok out'∧val out'=val a / b
 | 0,fr,wr,out,R,hm,hl,h42,h0,h1,h6,h7,h8,hR,hv,ho=>by
  obtain⟨fr',g1,g2,g3,g4⟩:=JY L run k fr (hp1 out) wr h42 (by rw[h8];rfl)
  simp only[List.drop_zero] at hR hv
  exact⟨fr',wr,out,bD g1,g2,by rw[g3,h6],by rw[g4,h7,hR],hl,ho,hv⟩
 | m+1,fr,wr,out,R,hm,hl,h42,h0,h1,h6,h7,h8,hR,hv,ho=>by
  have h8':nth fr 8 = .sc (.int .i64 (m:Int)):=by rw[h8];simp
  have hRb:R<b:=by rw[hR];exact Nat.mod_lt _ hb
  obtain⟨fr1,wr1,g1,g2,g3,g4,g5,g6,g7⟩:=Bu L run k fr wr a out b m R _ _ ha hb hb2 hRb (by omega) hl hl2 h42 h0 h1 h6 h7 h8' rfl rfl
  have hax:=cw ha m
  obtain⟨d1,d2⟩:=Dm (Q:=val (a.drop (m+1)) / b) (R:=val (a.drop (m+1)) % b) hb (ik a m (by omega)) rfl rfl
  rw[← hR] at d1 d2
  obtain⟨fr',wr',out',q1,q2⟩:=uF L run k a b ha hb hb2 hl2 m fr1 wr1 (out.set m ((R*1000000000+at0 a m) / b)) ((R*1000000000+at0 a m) % b) (by omega) (by rw[List.length_set];exact hl) g2 g3 g4 g5 g6 g7 d2
   (by rw[kG (by omega),val,hv];exact d1)
   (ho.set _ (by
    refine Nat.div_lt_of_lt_mul ?_
    have:(R+1)*1000000000≤b*1000000000:=Nat.mul_le_mul_right _ hRb
    rw[Nat.add_mul] at this
    omega))
  exact⟨fr',wr',out',by rw[ch g1];exact q1,q2⟩
noncomputable def EN:Code:=seq1 (seq1 (ah 2 lF))
theorem Bt:ah 2 lF = .seq (.seq EN (.block 0 (.loop qN))) (ah 3 lF):=rfl
theorem JX (L:Lst)(run:ar)(k:Nat)(a:List Nat)(p:PV)(hl:a.length<1000000) :
  ∃ fr wr,aY (CC L) run k 2 lF ⟨entry 42 [aM a,p],[],[]⟩=some ⟨fr,hp1 (List.replicate a.length 0),wr⟩∧fr.length=42∧nth fr 0=aM a∧nth fr 1=p∧nth fr 6 = .own 0 1 0 a.length true∧nth fr 7 = .sc (.int .u64 (0:Nat)):=by
 obtain⟨e1,e2,e3⟩:=cC 40 (aM a) p
 generalize entry 42 [aM a,p]=fr0 at *
 have h1:a.length≤cY:=Nat.le_trans (Nat.le_of_lt hl) (by decide)
 rw[show hp1 (List.replicate a.length 0)=[⟨.live,rep a.length [dg 0]⟩] by rw[qV]]
 simp[lF,Tryz.f181,aY,e1,e2,e3,af,aJ,ao,aq,aH,ag,ai,aj,an,aF,aC,FP.none,aw,bM,bm,aa,ae,ab,bh,and_assoc,ct,uD,s32,b32,z32,aO,cn,h1]
theorem VK (L:Lst)(run:ar)(k:Nat)(fr:List PV)(hp:List Blk)(wr:List Nat)(a:List Nat)(hl:a.length<1000000)(h42:fr.length=42)(h0:nth fr 0=aM a) :
  ∃ fr',af (CC L) run k EN ⟨fr,hp,wr⟩=some (.normal,⟨fr',hp,wr⟩)∧fr'.length=42∧nth fr' 0=aM a∧nth fr' 1=nth fr 1∧nth fr' 6=nth fr 6∧nth fr' 7=nth fr 7∧nth fr' 8 = .sc (.int .i64 ((a.length:Int) - 1)):=by
 have hw:=cR a.length (by omega)
 simp[EN,lF,Tryz.f181,ah,seq1,af,aJ,ao,aq,aH,ag,ai,aj,an,aF,aC,FP.none,bd,au,bj,aw,bM,aa,ae,ab,bh,ct,uD,h42,h0,hw]
theorem EM (L:Lst)(run:ar)(k:Nat)(fr:List PV)(hp:List Blk)(wr:List Nat)(p:PV)(r:Nat)(hr:r<1000000000)(h42:fr.length=42)(h6:nth fr 6=p)(h7:nth fr 7 = .sc (.int .u64 (r:Int))) :
  ∃ st,af (CC L) run k (ah 3 lF) ⟨fr,hp,wr⟩=some (.ret,st)∧aZ TT st.fr st.hp Tryz.f181.results.toList=some [p,dg r]∧st.hp=hp:=by
 have hw5:bA .u32 (r:Int)=(r:Int):=cu .u32 r (iB (by omega))
 simp[lF,Tryz.f181,ah,af,aJ,ao,aq,aH,ag,ai,aj,an,aF,aC,FP.none,aa,ae,ab,bh,and_assoc,u32,u64,dF,h42,h6,h7,hw5,aZ,gN r]
def dg?:PV→Option Nat
 | .sc (.int .u32 (.ofNat n))=>bif n.blt 1000000000 then some n else none
 | _=>none
theorem TG {p:PV}{n:Nat}(h:dg? p=some n):p=dg n∧n<1000000000:=by
 unfold dg? at h
 split at h
 ·rename_i m
  cases hb:m.blt 1000000000 with
  | false=>rw[hb] at h;cases h
  | true =>
   rw[hb] at h
   simp at h;subst h
   exact⟨rfl,by simpa [Nat.blt_eq] using hb⟩
 ·cases h
theorem TH {n:Nat}(h:n<1000000000):dg? (dg n)=some n:=by
 have:n.blt 1000000000=true:=by rw[Nat.blt_eq];exact h
 show (bif n.blt 1000000000 then some n else none)=some n
 rw[this];rfl
def mI:List PV→Option (List PV)
 | [p,q]=>match gW p,dg? q with
  | some a,some (b+1)=>some [aM (db a.length (val a / (b+1))),dg (val a % (b+1))]
  | _,_=>none
 | _=>none
theorem uE:Ab.Spec base.P 181 mI:=Ab.Spec.bQ (C:=CC []) (cV trivial) fun args rs h=>by
 unfold mI at h
 split at h
 ·split at h
  ·rename_i a b ea eb
   obtain⟨rfl,ha,hla⟩:=dA ea
   obtain⟨rfl,hb⟩:=TG eb
   simp only[Option.some.injEq] at h
   subst h
   obtain⟨f1,wr1,p1,p2,p3,p4,p5,p6⟩:=JX [] (runK (CC []) (a.length+1)) (a.length+1) a (dg (b+1)) hla
   obtain⟨f2,q1,q2,q3,q4,q5,q6,q7⟩:=VK [] (runK (CC []) (a.length+1)) (a.length+1) f1 (hp1 (List.replicate a.length 0)) wr1 a hla p2 p3
   obtain⟨f3,wr3,out,r1,r2,r3,r4,r5,r6,r7⟩:=uF [] (runK (CC []) (a.length+1)) (a.length+1) a (b+1) ha (by omega) hb hla a.length f2 wr1 (List.replicate a.length 0) 0 (Nat.le_refl _) (by simp) q2 q3 (by rw[q4,p4]) (by rw[q5,p5]) (by rw[q6,p6]) q7 (by simp[val]) (by simp[val]) (Dok.HX _)
   obtain⟨st,e1,e2,e3⟩:=EM [] (runK (CC []) (a.length+1)) (a.length+1) f3 (hp1 out) wr3 _ (val a % (b+1)) (Nat.lt_of_lt_of_le (Nat.mod_lt _ (by omega)) (by omega)) r2 r3 r4
   have hx:af (CC []) (runK (CC []) (a.length+1)) (a.length+1) lF ⟨entry 42 [aM a,dg (b+1)],[],[]⟩=some (.ret,st):=by
    rw[aP 2 p1,Bt,av ((av q1).trans (bH r1))]
    exact e1
   have hout:out=db a.length (val a / (b+1)):=r6.oS r5 r7
   refine⟨a.length+2,_,_,_,[.imm a.length true (out.map dg),dg (val a % (b+1))],[0],aX HC rfl hx e2,?_,?_⟩
   ·rw[e3,← r5]
    have hs:=jF (hp1 out) 10 out
    have:snap (hp1 out) 12 (.own 0 1 0 out.length true)=some (.imm out.length true (out.map dg),[0]):=by
     rw[snap]
     have h:aV (hp1 out) 0=some ⟨.live,out.map dg⟩:=rfl
     simp only[h]
     rw[if_neg (by simp),Bf]
     simp only[hs]
    simp only[bp,bt,this]
    rfl
   ·refine⟨?_,Wk.refl rfl,trivial⟩
    rw[← hout]
    have:=Wk.imm a.length true (out.map dg)
    rw[← r5] at this ⊢
    exact this
  ·cases h
 ·cases h
end Go.Proofs.YtjdmodeenbdfpaaGreat
