/- Contracts of num's integers, part 20; each lemma states its conditions. -/
import Derived.Test.YtjdmodeenbdfpaaGreatU19
set_option linter.unusedSimpArgs false
set_option linter.unusedVariables false
noncomputable section
namespace Go.Proofs.YtjdmodeenbdfpaaGreat
open Go Go.Ab List Tryz
attribute [local simp] FzZ aC aF aG aH aV aX aa ab ae af ag ah ai aj an aq ar au aw az ba bf bg partOf uD
variable(L:Lst)(run:av)(k:Nat)(fr:Ψ)(hp:Θ)(wr:Ω)
def mulC:Code:=f105.body.getD .skip
def nM:Code:=((f105.body).bind az).getD .skip
def Ot:Code:=(az nM).getD .skip
abbrev hpM (b0 b1 b2:Blk)(out:Ω):Θ:=[b0,b1,b2,⟨.live,out.map dg⟩]
theorem UW(n:Nat)(h78:fr.length=78)(h29:nth fr 29 = .sc (.int .i64 (n:Int)))(h30:nth fr 30 = .sc (.int .i64 (n:Int))) :
  ∃ fr',ae (CC L) run k Ot ⟨fr,hp,wr⟩=some (.exit 2,⟨fr',hp,wr⟩)∧fr'.length=78∧nth fr' 2=nth fr 2∧nth fr' 3=nth fr 3∧nth fr' 4=nth fr 4∧nth fr' 5=nth fr 5∧nth fr' 6=nth fr 6∧nth fr' 8=nth fr 8∧nth fr' 20=nth fr 20∧nth fr' 21=nth fr 21∧nth fr' 22=nth fr 22:=by
 simp[Ot,nM,f105,h78,h29,h30]
set_option maxHeartbeats 4000000 in
theorem Iz (L:Lst)(run:av)(k:Nat)(fr:Ψ)(b0 b1 b2:Blk)(wr:Ω)(b out:Ω)(i j c x q r:Nat)(hb:Dok b)(ho:Dok out)(hx:x<1000000000)(hc:c<1000000000)(hj:j<b.length)(hij:i+j<out.length)(hl:out.length<1000000)
  (h78:fr.length=78) (h5:nth fr 5 = .own 3 1 0 out.length true) (h6:nth fr 6 = .sc (.int .i64 (i:Int))) (h7:nth fr 7 = .sc (.int .u32 (x:Int))) (h8:nth fr 8 = .sc (.int .u64 (c:Int)))
  (h28:nth fr 28=aL b) (h29:nth fr 29 = .sc (.int .i64 (b.length:Int))) (h30:nth fr 30 = .sc (.int .i64 (j:Int))) (hr:r=(c+(x*at0 b j+at0 out (i+j))) % 1000000000) (hq:q=(c+(x*at0 b j+at0 out (i+j))) / 1000000000) :
  ∃ fr' wr',ae (CC L) run k Ot ⟨fr,hpM b0 b1 b2 out,wr⟩=some (.normal,⟨fr',hpM b0 b1 b2 (out.set (i+j) r),wr'⟩)∧fr'.length=78∧nth fr' 8 = .sc (.int .u64 (q:Int))∧nth fr' 30 = .sc (.int .i64 ((j+1:Nat):Int))
   ∧ nth fr' 2=nth fr 2∧nth fr' 3=nth fr 3∧nth fr' 4=nth fr 4∧nth fr' 5=nth fr 5∧nth fr' 6=nth fr 6∧nth fr' 7=nth fr 7∧nth fr' 20=nth fr 20∧nth fr' 21=nth fr 21∧nth fr' 22=nth fr 22∧nth fr' 28=nth fr 28∧nth fr' 29=nth fr 29:=by
 have hdb:=eJ b j hj
 have hdo:=eJ out (i+j) hij
 have hby:=hb.get hj
 have hoy:=ho.get hij
 have hov:=jk out (i+j) r hij
 rw[de hj,de hij] at hr hq
 generalize b[j]=y at *
 generalize out[i+j]=o at *
 have e2:aL b = .imm b.length false (b.map dg):=rfl
 have hdy:dg y = .sc (.int .u32 (y:Int)):=rfl
 have hdo':dg o = .sc (.int .u32 (o:Int)):=rfl
 rw[e2] at h28;rw[hdy] at hdb;rw[hdo'] at hdo
 have hxy:x*y≤999999999*999999999:=Nat.mul_le_mul (by omega) (by omega)
 obtain⟨s1,hs1⟩:∃ s1,s1=x*y:=⟨_,rfl⟩
 rw[← hs1] at hr hq hxy
 obtain⟨s2,hs2⟩:∃ s2,s2=s1+o:=⟨_,rfl⟩
 rw[← hs2] at hr hq
 obtain⟨s3,hs3⟩:∃ s3,s3=c+s2:=⟨_,rfl⟩
 rw[← hs3] at hr hq
 have hw0:=cp .u64 x (dA (by omega))
 have hw1:=cp .u64 y (dA (by omega))
 have hw2:=cp .u64 o (dA (by omega))
 have hw3:=wrapM .u64 x y s1 hs1 (dA (by omega))
 have hw4:=dx .u64 s1 o s2 hs2 (dA (by omega))
 have hw5:=dx .u64 c s2 s3 hs3 (dA (by omega))
 have hw6:=jC .u64 s3 q hq (dA (by omega))
 have hw9:bB .u32 (r:Int)=(r:Int):=cp .u32 r (iC (by omega))
 have hw7:=dx .i64 i j (i+j) rfl (hiI (by omega))
 obtain⟨p,hp⟩:∃ p,p=i+j:=⟨_,rfl⟩
 have hwj:=bE j (by omega)
 rw[← hp] at hw7 hdo hov hij ⊢
 have hw8:=ll s3 r hr
 simp[Ot,nM,f105,bc,bm,and_assoc,bj,du,fY,h78,h5,h6,h7,h8,h28,h29,h30,u32,u64,s32,a32,dF,hj,hij,hdb,hdo,cF,hw0,hw1,hw2,hw3,hw4,hw5,hw6,hw7,hw8,hw9,hwj,hov,gM r]
theorem gd {l:Ω}{p m y:Nat}(h:p≠m):at0 (l.set p y) m=at0 l m:=by
 simp[at0,getElem?_set_ne h]
theorem CQ (l:Ω)(p y:Nat)(h:p<l.length):val (l.set p y)+at0 l p*1000000000 ^ p=val l+y*1000000000 ^ p:=by
 rw[de h];exact qm l p y h
theorem UK {V0 vo vo' c x y o P Q q r vb:Nat}(h:vo+c*P=V0+x*vb*Q)(hv:vo'+o*P=vo+r*P)(hr:r=(c+(x*y+o)) % 1000000000)(hq:q=(c+(x*y+o)) / 1000000000)(R:Nat)(hP:P=R*Q) :
  vo'+q*(P*1000000000)=V0+x*(vb+y*R)*Q:=by
 have e:c+(x*y+o)=r+1000000000*q:=by omega
 have e2:(c+(x*y+o))*P=(r+1000000000*q)*P:=by rw[e]
 simp only[Nat.add_mul] at e2
 have e3:1000000000*q*P=q*(P*1000000000):=by grind
 have e4:x*(vb+y*R)*Q=x*vb*Q+x*y*P:=by subst hP;grind
 rw[e4]
 omega
def Kept (fr fr':Ψ):Prop:=nth fr' 2=nth fr 2∧nth fr' 3=nth fr 3∧nth fr' 4=nth fr 4∧nth fr' 5=nth fr 5∧nth fr' 6=nth fr 6∧nth fr' 20=nth fr 20∧nth fr' 21=nth fr 21∧nth fr' 22=nth fr 22
theorem Aq (L:Lst)(run:av)(k:Nat)(b0 b1 b2:Blk)(b:Ω)(i x V0:Nat)(hb:Dok b)(hx:x<1000000000):∀ (n j:Nat) (fr:Ψ) (wr:Ω) (out:Ω) (c:Nat),j+n=b.length→Dok out→c<1000000000→i+b.length≤out.length→out.length<1000000 →
  fr.length=78→nth fr 5 = .own 3 1 0 out.length true→nth fr 6 = .sc (.int .i64 (i:Int))→nth fr 7 = .sc (.int .u32 (x:Int))→nth fr 8 = .sc (.int .u64 (c:Int)) →
  nth fr 28=aL b→nth fr 29 = .sc (.int .i64 (b.length:Int))→nth fr 30 = .sc (.int .i64 (j:Int))→val out+c*1000000000 ^ (i+j)=V0+x*val (b.take j)*1000000000 ^ i →
  ∃ (fr':Ψ) (wr':Ω) (out':Ω) (c':Nat),cg (ae (CC L) run k Ot) (n+1) ⟨fr,hpM b0 b1 b2 out,wr⟩=some (.exit 2,⟨fr',hpM b0 b1 b2 out',wr'⟩)∧fr'.length=78∧Kept fr fr'∧nth fr' 8 = .sc (.int .u64 (c':Int))
   ∧ Dok out'∧c'<1000000000∧out'.length=out.length∧val out'+c'*1000000000 ^ (i+b.length)=V0+x*val b*1000000000 ^ i∧∀ m,i+b.length≤m→at0 out' m=at0 out m
 | 0,j,fr,wr,out,c,hj,ho,hc,hil,hl,h78,h5,h6,h7,h8,h28,h29,h30,hv=>by
  have:j=b.length:=by omega
  subst this
  obtain⟨fr',g1,g2,g3,g4,g5,g6,g7,g8,g9,g10,g11⟩:=UW L run k fr (hpM b0 b1 b2 out) wr b.length h78 h29 h30
  exact⟨fr',wr,out,c,br g1,g2,⟨g3,g4,g5,g6,g7,g9,g10,g11⟩,by rw[g8,h8],ho,hc,rfl,by rw[hv,take_length],fun m _=>rfl⟩
 | n+1,j,fr,wr,out,c,hj,ho,hc,hil,hl,h78,h5,h6,h7,h8,h28,h29,h30,hv=>by
  have hy:=cn hb j
  have hoo:=cn ho (i+j)
  have hxy:x*at0 b j≤999999999*999999999:=Nat.mul_le_mul (by omega) (by omega)
  obtain⟨fr1,wr1,g1,g2,g3,g4,g5,g6,g7,g8,g9,g10,g11,g12,g13,g14,g15⟩:=Iz L run k fr b0 b1 b2 wr b out i j c x _ _ hb ho hx hc (by omega) (by omega) hl h78 h5 h6 h7 h8 h28 h29 h30 rfl rfl
  obtain⟨fr',wr',out',c',q1,q2,q3,q4,q5,q6,q7,q8,q9⟩:=Aq L run k b0 b1 b2 b i x V0 hb hx n (j+1) fr1 wr1 _ _ (by omega) (ho.set (i+j) (Nat.mod_lt _ (by omega)))
   (show (c+(x*at0 b j+at0 out (i+j))) / 1000000000<1000000000 by omega) (by rw[length_set];exact hil) (by rw[length_set];exact hl) g2 (by rw[g8,h5,length_set]) (by rw[g9,h6]) (by rw[g10,h7]) g3 (by rw[g14,h28]) (by rw[g15,h29]) g4
   (by
    have hvs:=CQ out (i+j) ((c+(x*at0 b j+at0 out (i+j))) % 1000000000) (by omega)
    rw[cu,show i+(j+1)=i+j+1 by omega,Nat.pow_succ]
    exact UK hv hvs rfl rfl (1000000000 ^ j) (by rw[Nat.pow_add,Nat.mul_comm]))
  obtain⟨k1,k2,k3,k4,k5,k6,k7,k8⟩:=q3
  refine⟨fr',wr',out',c',by rw[bU g1];exact q1,q2,⟨by rw[k1,g5],by rw[k2,g6],by rw[k3,g7],by rw[k4,g8],by rw[k5,g9],by rw[k6,g11],by rw[k7,g12],by rw[k8,g13]⟩,q4,q5,q6,by rw[q7,length_set],q8,fun m hm => ?_⟩
  rw[q9 m hm,gd (by omega)]
def po:Code:=match ai 2 nM with | .seq (.block _ c) _=>c | c=>c
def UU:Code:=match ai 2 nM with | .seq _ c=>c | c=>c
theorem Ix:ai 2 nM = .seq (.block 1 po) UU:=rfl
def UO:Code:=seq1 (seq1 (ai 2 po))
theorem ED:ai 2 po = .seq (.seq UO (.block 2 (.loop Ot))) (ai 3 po):=rfl
theorem US(n:Nat)(h78:fr.length=78)(h21:nth fr 21 = .sc (.int .i64 (n:Int)))(h22:nth fr 22 = .sc (.int .i64 (n:Int))) :
  ∃ fr',ae (CC L) run k nM ⟨fr,hp,wr⟩=some (.exit 0,⟨fr',hp,wr⟩)∧fr'.length=78∧nth fr' 2=nth fr 2∧nth fr' 3=nth fr 3∧nth fr' 4=nth fr 4∧nth fr' 5=nth fr 5:=by
 simp[nM,f105,h78,h21,h22]
theorem UR(i n:Nat)(hi:i<n)(h78:fr.length=78)(h21:nth fr 21 = .sc (.int .i64 (n:Int)))(h22:nth fr 22 = .sc (.int .i64 (i:Int))) :
  ∃ fr',bh (CC L) run k 2 nM ⟨fr,hp,wr⟩=some ⟨fr',hp,wr⟩∧fr'.length=78∧nth fr' 2=nth fr 2∧nth fr' 3=nth fr 3∧nth fr' 4=nth fr 4∧nth fr' 5=nth fr 5∧nth fr' 20=nth fr 20∧nth fr' 21=nth fr 21∧nth fr' 22=nth fr 22:=by
 simp[nM,f105,bh,h78,h21,h22,hi]
theorem Oq(a:Ω)(i:Nat)(hi:i<a.length)(h78:fr.length=78)(h20:nth fr 20=aL a)(h22:nth fr 22 = .sc (.int .i64 (i:Int))) :
  ∃ fr',bh (CC L) run k 2 po ⟨fr,hp,wr⟩=some ⟨fr',hp,wr⟩∧fr'.length=78∧nth fr' 6 = .sc (.int .i64 (i:Int))∧nth fr' 7 = .sc (.int .u32 (at0 a i:Int))∧nth fr' 8 = .sc (.int .u64 (0:Nat))∧nth fr' 2=nth fr 2∧nth fr' 3=nth fr 3∧nth fr' 4=nth fr 4∧nth fr' 5=nth fr 5∧nth fr' 20=nth fr 20∧nth fr' 21=nth fr 21∧nth fr' 22=nth fr 22:=by
 have hda:=eJ a i hi
 rw[de hi]
 generalize a[i]=x at *
 have e2:aL a = .imm a.length false (a.map dg):=rfl
 have hdx:dg x = .sc (.int .u32 (x:Int)):=rfl
 rw[e2] at h20;rw[hdx] at hda
 simp[po,nM,f105,bh,bc,bm,h78,h20,h22,hi,s32,a32,hda]
theorem UN (L:Lst)(run:av)(k:Nat)(fr:Ψ)(b0 b2 b3:Blk)(wr:Ω)(nb:Bool)(b:Ω)(h78:fr.length=78)(h3:nth fr 3 = .ptr 1 0) :
  ∃ fr',ae (CC L) run k UO ⟨fr,[b0,⟨.live,[.sc (.bool nb),aL b]⟩,b2,b3],wr⟩=some (.normal,⟨fr',[b0,⟨.live,[.sc (.bool nb),aL b]⟩,b2,b3],wr⟩)∧fr'.length=78∧nth fr' 28=aL b∧nth fr' 29 = .sc (.int .i64 (b.length:Int))∧nth fr' 30 = .sc (.int .i64 (0:Nat))
   ∧ nth fr' 2=nth fr 2∧nth fr' 3=nth fr 3∧nth fr' 4=nth fr 4∧nth fr' 5=nth fr 5∧nth fr' 6=nth fr 6∧nth fr' 7=nth fr 7∧nth fr' 8=nth fr 8∧nth fr' 20=nth fr 20∧nth fr' 21=nth fr 21∧nth fr' 22=nth fr 22:=by
 simp[UO,po,nM,f105,seq1,bM,bN,cl,h78,h3,uW,sD,aD,wf0,wf1,bz]
theorem UQ (L:Lst)(run:av)(k:Nat)(fr:Ψ)(b0 b2:Blk)(wr:Ω)(nb:Bool)(b out:Ω)(i c:Nat)(hc:c<1000000000)(hi:i+b.length<out.length)(hl:out.length<1000000)
  (h78:fr.length=78) (h3:nth fr 3 = .ptr 1 0) (h5:nth fr 5 = .own 3 1 0 out.length true) (h6:nth fr 6 = .sc (.int .i64 (i:Int))) (h8:nth fr 8 = .sc (.int .u64 (c:Int))) :
  ∃ fr' wr',ae (CC L) run k (ai 3 po) ⟨fr,hpM b0 ⟨.live,[.sc (.bool nb),aL b]⟩ b2 out,wr⟩=some (.normal,⟨fr',hpM b0 ⟨.live,[.sc (.bool nb),aL b]⟩ b2 (out.set (i+b.length) c),wr'⟩)∧fr'.length=78
   ∧ nth fr' 2=nth fr 2∧nth fr' 3=nth fr 3∧nth fr' 4=nth fr 4∧nth fr' 5=nth fr 5∧nth fr' 20=nth fr 20∧nth fr' 21=nth fr 21∧nth fr' 22=nth fr 22:=by
 have hw7:=dx .i64 i b.length (i+b.length) rfl (hiI (by omega))
 have hov:=jk out (i+b.length) c hi
 have hw9:bB .u32 (c:Int)=(c:Int):=cp .u32 c (iC (by omega))
 obtain⟨p,hp⟩:∃ p,p=i+b.length:=⟨_,rfl⟩
 rw[← hp] at hw7 hov hi ⊢
 simp[po,nM,f105,bM,bc,bN,bm,and_assoc,cl,bj,du,fY,h78,h3,h5,h6,h8,uW,u32,u64,sD,s32,aD,wf0,wf1,dF,cF,bz,hw7,hw9,hov,hi,gM c]
theorem UT(i:Nat)(hi:i<1000000)(h78:fr.length=78)(h22:nth fr 22 = .sc (.int .i64 (i:Int))) :
  ∃ fr',ae (CC L) run k UU ⟨fr,hp,wr⟩=some (.normal,⟨fr',hp,wr⟩)∧fr'.length=78∧nth fr' 22 = .sc (.int .i64 ((i+1:Nat):Int))∧nth fr' 2=nth fr 2∧nth fr' 3=nth fr 3∧nth fr' 4=nth fr 4∧nth fr' 5=nth fr 5∧nth fr' 20=nth fr 20∧nth fr' 21=nth fr 21:=by
 have hw:=bE i (by omega)
 simp[UU,nM,f105,h78,h22,hw]
theorem Iy (L:Lst)(run:av)(k:Nat)(fr:Ψ)(b0 b2:Blk)(wr:Ω)(nb:Bool)(a b out:Ω)(i:Nat)(ha:Dok a)(hb:Dok b)(ho:Dok out)(hi:i<a.length)(hil:out.length=a.length+b.length)(hl:out.length<1000000)(hk:b.length<k)
  (h78:fr.length=78) (h3:nth fr 3 = .ptr 1 0) (h5:nth fr 5 = .own 3 1 0 out.length true) (h20:nth fr 20=aL a) (h21:nth fr 21 = .sc (.int .i64 (a.length:Int))) (h22:nth fr 22 = .sc (.int .i64 (i:Int)))
  (hz:∀ m,i+b.length≤m→at0 out m=0) (hv:val out=val (a.take i)*val b) :
  ∃ (fr':Ψ) (wr':Ω) (out':Ω),ae (CC L) run k nM ⟨fr,hpM b0 ⟨.live,[.sc (.bool nb),aL b]⟩ b2 out,wr⟩=some (.normal,⟨fr',hpM b0 ⟨.live,[.sc (.bool nb),aL b]⟩ b2 out',wr'⟩)∧fr'.length=78
   ∧ nth fr' 2=nth fr 2∧nth fr' 3 = .ptr 1 0∧nth fr' 4=nth fr 4∧nth fr' 5 = .own 3 1 0 out'.length true∧nth fr' 20=aL a∧nth fr' 21 = .sc (.int .i64 (a.length:Int))∧nth fr' 22 = .sc (.int .i64 ((i+1:Nat):Int))
   ∧ Dok out'∧out'.length=out.length∧(∀ m,i+1+b.length≤m→at0 out' m=0)∧val out'=val (a.take (i+1))*val b:=by
 obtain⟨f1,p1,p2,p3,p4,p5,p6,p7,p8,p9⟩:=UR L run k fr (hpM b0 ⟨.live,[.sc (.bool nb),aL b]⟩ b2 out) wr i a.length hi h78 h21 h22
 obtain⟨f2,q1,q2,q3,q4,q5,q6,q7,q8,q9,q10,q11,q12⟩:=Oq L run k f1 (hpM b0 ⟨.live,[.sc (.bool nb),aL b]⟩ b2 out) wr a i hi p2 (by rw[p7,h20]) (by rw[p9,h22])
 obtain⟨f3,r1,r2,r3,r4,r5,r6,r7,r8,r9,r10,r11,r12,r13,r14,r15⟩:=UN L run k f2 b0 b2 ⟨.live,out.map dg⟩ wr nb b q2 (by rw[q7,p4,h3])
 have hx:=cn ha i
 obtain⟨f4,wr4,out4,c,t1,t2,t3,t4,t5,t6,t7,t8,t9⟩:=Aq L run k b0 ⟨.live,[.sc (.bool nb),aL b]⟩ b2 b i (at0 a i) (val (a.take i)*val b) hb hx b.length 0 f3 wr out 0 (by omega) ho (by omega) (by omega) hl r2
  (by rw[r9,q9,p6,h5]) (by rw[r10,q3]) (by rw[r11,q4]) (by rw[r12,q5]) r3 r4 r5 (by rw[take_zero,hv];simp[val])
 obtain⟨k1,k2,k3,k4,k5,k6,k7,k8⟩:=t3
 have h54:nth f4 5 = .own 3 1 0 out4.length true:=by rw[k4,r9,q9,p6,h5,t7]
 obtain⟨f5,wr5,u1,u2,u3,u4,u5,u6,u7,u8,u9⟩:=UQ L run k f4 b0 b2 wr4 nb b out4 i c t6 (by omega) (by omega) t2 (by rw[k2,r7,q7,p4,h3]) h54 (by rw[k5,r10,q3]) t4
 obtain⟨f6,w1,w2,w3,w4,w5,w6,w7,w8,w9⟩:=UT L run k f5 (hpM b0 ⟨.live,[.sc (.bool nb),aL b]⟩ b2 (out4.set (i+b.length) c)) wr5 i (by omega) u2 (by rw[u9,k8,r15,q12,p9,h22])
 refine⟨f6,wr5,out4.set (i+b.length) c,?_,w2,?_,?_,?_,?_,?_,?_,w3,t5.set _ t6,?_,?_,?_⟩
 ·rw[aU 2 p1,Ix]
  have hB:ae (CC L) run k po ⟨f1,hpM b0 ⟨.live,[.sc (.bool nb),aL b]⟩ b2 out,wr⟩=some (.normal,⟨f5,hpM b0 ⟨.live,[.sc (.bool nb),aL b]⟩ b2 (out4.set (i+b.length) c),wr5⟩):=by
   rw[aU 2 q1,ED,ao ((ao r1).trans (bD (bG t1 (by omega))))]
   exact u1
  rw[ao (fC hB)]
  exact w1
 ·rw[w4,u3,k1,r6,q6,p3]
 ·rw[w5,u4,k2,r7,q7,p4,h3]
 ·rw[w6,u5,k3,r8,q8,p5]
 ·rw[w7,u6,h54,length_set]
 ·rw[w8,u7,k6,r13,q10,p7,h20]
 ·rw[w9,u8,k7,r14,q11,p8,h21]
 ·rw[length_set,t7]
 ·intro m hm
  rw[gd (by omega),t9 m (by omega),hz m (by omega)]
 ·have hs:=CQ out4 (i+b.length) c (by omega)
  rw[t9 _ (Nat.le_refl _),hz _ (Nat.le_refl _),Nat.zero_mul,Nat.add_zero,t8] at hs
  rw[hs,cu,Nat.add_mul]
  grind
theorem Ap (L:Lst)(run:av)(k:Nat)(b0 b2:Blk)(nb:Bool)(a b:Ω)(ha:Dok a)(hb:Dok b)(hl:a.length+b.length<1000000)(hk:b.length<k):∀ (n i:Nat) (fr:Ψ) (wr:Ω) (out:Ω),i+n=a.length→Dok out→out.length=a.length+b.length →
  fr.length=78→nth fr 3 = .ptr 1 0→nth fr 5 = .own 3 1 0 out.length true→nth fr 20=aL a→nth fr 21 = .sc (.int .i64 (a.length:Int))→nth fr 22 = .sc (.int .i64 (i:Int))→(∀ m,i+b.length≤m→at0 out m=0)→val out=val (a.take i)*val b →
  ∃ (fr':Ψ) (wr':Ω) (out':Ω),cg (ae (CC L) run k nM) (n+1) ⟨fr,hpM b0 ⟨.live,[.sc (.bool nb),aL b]⟩ b2 out,wr⟩=some (.exit 0,⟨fr',hpM b0 ⟨.live,[.sc (.bool nb),aL b]⟩ b2 out',wr'⟩)∧fr'.length=78
   ∧ nth fr' 2=nth fr 2∧nth fr' 3 = .ptr 1 0∧nth fr' 4=nth fr 4∧nth fr' 5 = .own 3 1 0 out'.length true∧Dok out'∧out'.length=a.length+b.length∧val out'=val a*val b
 | 0,i,fr,wr,out,hi,ho,hil,h78,h3,h5,h20,h21,h22,hz,hv=>by
  have:i=a.length:=by omega
  subst this
  obtain⟨fr',g1,g2,g3,g4,g5,g6⟩:=US L run k fr (hpM b0 ⟨.live,[.sc (.bool nb),aL b]⟩ b2 out) wr a.length h78 h21 h22
  exact⟨fr',wr,out,br g1,g2,g3,by rw[g4,h3],g5,by rw[g6,h5],ho,hil,by rw[hv,take_length]⟩
 | n+1,i,fr,wr,out,hi,ho,hil,h78,h3,h5,h20,h21,h22,hz,hv=>by
  obtain⟨f1,wr1,Iu,g1,g2,g3,g4,g5,g6,g7,g8,g9,g10,g11,g12,g13⟩:=Iy L run k fr b0 b2 wr nb a b out i ha hb ho (by omega) hil (by omega) hk h78 h3 h5 h20 h21 h22 hz hv
  obtain⟨fr',wr',out',q1,q2,q3,q4,q5,q6⟩:=Ap L run k b0 b2 nb a b ha hb hl hk n (i+1) f1 wr1 Iu (by omega) g10 (by omega) g2 g4 g6 g7 g8 g9 g12 g13
  exact⟨fr',wr',out',by rw[bU g1];exact q1,q2,by rw[q3,g3],q4,by rw[q5,g5],q6⟩
def UP:Code:=seq1 (seq1 (ai 2 mulC))
theorem Oo:ai 2 mulC = .seq (.seq UP (.block 0 (.loop nM))) (ai 3 mulC):=rfl
theorem abE (L:Lst)(run:av)(k:Nat)(na nb:Bool)(a b:Ω)(hl:a.length+b.length<1000000) :
  ∃ fr wr,bh (CC L) run k 2 mulC ⟨entry 78 [wh na a,wh nb b],[],[]⟩=some ⟨fr,hpM ⟨.live,[.sc (.bool na),aL a]⟩ ⟨.live,[.sc (.bool nb),aL b]⟩ ⟨.live,[.sc (.bool false),.sc (.slice none 0 0)]⟩ (List.replicate (a.length+b.length) 0),wr⟩∧fr.length=78
   ∧ nth fr 2 = .ptr 0 0∧nth fr 3 = .ptr 1 0∧nth fr 4 = .ptr 2 0∧nth fr 5 = .own 3 1 0 (a.length+b.length) true:=by
 obtain⟨e1,e2,e3⟩:=cb 76 (wh na a) (wh nb b)
 generalize entry 78 [wh na a,wh nb b]=fr0 at *
 have e4:∀ n l,wh n l = .agg [.sc (.bool n),aL l]:=fun _ _=>rfl
 rw[e4] at e2 e3
 have hw7:=dx .i64 a.length b.length (a.length+b.length) rfl (hiI (by omega))
 rw[show hpM ⟨.live,[.sc (.bool na),aL a]⟩ ⟨.live,[.sc (.bool nb),aL b]⟩ ⟨.live,[.sc (.bool false),.sc (.slice none 0 0)]⟩ (List.replicate (a.length+b.length) 0)=[⟨.live,[.sc (.bool na),aL a]⟩,⟨.live,[.sc (.bool nb),aL b]⟩,⟨.live,[.sc (.bool false),.sc (.slice none 0 0)]⟩,⟨.live,rep (a.length+b.length) [dg 0]⟩] by rw[sK]]
 have h1:a.length+b.length≤cW:=Nat.le_trans (Nat.le_of_lt hl) (by decide)
 generalize hp:a.length+b.length=p at *
 simp[mulC,f105,bh,e1,e2,e3,bM,bN,bm,and_assoc,cl,bp,uW,sD,s32,b32,z32,zW,aD,wf0,wf1,bd,bz,hw7,bZ,h1]
theorem afC (L:Lst)(run:av)(k:Nat)(fr:Ψ)(b1 b2 b3:Blk)(wr:Ω)(na:Bool)(a:Ω)(h78:fr.length=78)(h2:nth fr 2 = .ptr 0 0) :
  ∃ fr',ae (CC L) run k UP ⟨fr,[⟨.live,[.sc (.bool na),aL a]⟩,b1,b2,b3],wr⟩=some (.normal,⟨fr',[⟨.live,[.sc (.bool na),aL a]⟩,b1,b2,b3],wr⟩)∧fr'.length=78∧nth fr' 20=aL a∧nth fr' 21 = .sc (.int .i64 (a.length:Int))∧nth fr' 22 = .sc (.int .i64 (0:Nat))
   ∧ nth fr' 2=nth fr 2∧nth fr' 3=nth fr 3∧nth fr' 4=nth fr 4∧nth fr' 5=nth fr 5:=by
 simp[UP,mulC,f105,seq1,bM,bN,cl,h78,h2,uW,sD,aD,wf0,wf1,bz]
theorem uY(dr:Bool)(b0 b1 b2:Blk)(n:Bool)(l:Ω)(hd:Dok l)(hl:l.length<1000000) :
  bS (CC L1) run dr (hpM b0 b1 b2 l) 152 [.sc (.bool n),.own 3 1 0 l.length true]=some (bt (sgn n (val l)),[b0,b1,b2,⟨.ro,l.map dg⟩],⟨[3],[3],false,false⟩):=by
 have h1:bu (snap (hpM b0 b1 b2 l) bn) [.sc (.bool n),.own 3 1 0 l.length true]=some ([.sc (.bool n),.imm l.length true (l.map dg)],[3]):=by
  have hs:=jY (hpM b0 b1 b2 l) 10 l
  have:snap (hpM b0 b1 b2 l) 12 (.own 3 1 0 l.length true)=some (.imm l.length true (l.map dg),[3]):=by
   rw[snap]
   have h:aX (hpM b0 b1 b2 l) 3=some ⟨.live,l.map dg⟩:=rfl
   simp only[h]
   rw[if_neg (by simp),CY]
   simp only[hs]
  simp only[bn,bu,this]
  rfl
 have h2:aK [.sc (.bool n),.imm l.length true (l.map dg)]=[.sc (.bool n),aL l]:=by
  simp only[aK,canon,jc];rfl
 have h3:(CC L1).orc 152 [.sc (.bool n),.imm l.length true (l.map dg)]=some [bt (sgn n (val l))]:=by
  show fx (aK [.sc (.bool n),.imm l.length true (l.map dg)])=_
  rw[h2]
  simp only[fx,cZ hd hl]
 have:=eI (run:=run) (dr:=dr) oD h1 h3 rfl
 rw[this]
 rfl
theorem UL(na nb:Bool)(a b out:Ω)(hd:Dok out)(hl:out.length<1000000)(h78:fr.length=78)(h2:nth fr 2 = .ptr 0 0)(h3:nth fr 3 = .ptr 1 0)(h4:nth fr 4 = .ptr 2 0)(h5:nth fr 5 = .own 3 1 0 out.length true) :
  ∃ st,ae (CC L1) run k (ai 3 mulC) ⟨fr,hpM ⟨.live,[.sc (.bool na),aL a]⟩ ⟨.live,[.sc (.bool nb),aL b]⟩ ⟨.live,[.sc (.bool false),.sc (.slice none 0 0)]⟩ out,wr⟩=some (.ret,st)∧aY TT st.fr st.hp f105.results.toList=some [bt (sgn (na != nb) (val out))]:=by
 have hc:=fun dr=>uY run dr ⟨.live,[.sc (.bool na),aL a]⟩ ⟨.live,[.sc (.bool nb),aL b]⟩ ⟨.live,[.sc (.bool false),.sc (.slice none 0 0)]⟩ (na != nb) out hd hl
 simp only[whW] at hc ⊢
 generalize aJ (sgn (na != nb) (val out)).natAbs=r at *
 generalize bw (sgn (na != nb) (val out))=nn at *
 cases na <;> cases nb <;> simp only[bne_self_eq_false,Bool.bne_true,Bool.bne_false,Bool.not_false] at hc <;>
  simp[mulC,f105,aM,dG,bN,bp,cf,bH,bj,hc,h78,h2,h3,h4,h5,uB,uW,sB,sW,aB,aW,wf0,wf1,cF,bz,b9,bF,aY]
theorem ZI (x y:Int):sgn (bw x != bw y) (x.natAbs*y.natAbs)=x*y:=by
 rw[sz,cK,cK,Int.natCast_mul]
 by_cases hx:x<0 <;> by_cases hy:y<0
 ·have e1:(x.natAbs:Int) = -x:=by omega
  have e2:(y.natAbs:Int) = -y:=by omega
  simp[hx,hy,e1,e2,Int.neg_mul,Int.mul_neg]
 ·have e1:(x.natAbs:Int) = -x:=by omega
  have e2:(y.natAbs:Int)=y:=by omega
  simp[hx,hy,e1,e2,Int.neg_mul]
 ·have e1:(x.natAbs:Int)=x:=by omega
  have e2:(y.natAbs:Int) = -y:=by omega
  simp[hx,hy,e1,e2,Int.mul_neg]
 ·have e1:(x.natAbs:Int)=x:=by omega
  have e2:(y.natAbs:Int)=y:=by omega
  simp[hx,hy,e1,e2]
theorem PE (n m:Nat):at0 (List.replicate n 0) m=0:=by
 by_cases h:m<n
 ·simp[at0,h]
 ·simp[at0,h]
def EE:Ψ→Option Ψ
 | [p,q]=>match fM p,fM q with
  | some x,some y=>some [bt (x*y)]
  | _,_=>none
 | _=>none
theorem UM(x y:Int)(hx:Sm x)(hy:Sm y)(hk:(aJ x.natAbs).length<k)(hk2:(aJ y.natAbs).length<k) :
  ∃ st,ae (CC L1) run k mulC ⟨entry 78 [bt x,bt y],[],[]⟩=some (.ret,st)∧aY TT st.fr st.hp f105.results.toList=some [bt (x*y)]:=by
 have hl:(aJ x.natAbs).length+(aJ y.natAbs).length<1000000:=by unfold Sm at hx hy;omega
 obtain⟨f1,wr1,p1,p2,p3,p4,p5,p6⟩:=abE L1 run k (bw x) (bw y) (aJ x.natAbs) (aJ y.natAbs) hl
 obtain⟨f2,q1,q2,q3,q4,q5,q6,q7,q8,q9⟩:=afC L1 run k f1 ⟨.live,[.sc (.bool (bw y)),aL (aJ y.natAbs)]⟩ ⟨.live,[.sc (.bool false),.sc (.slice none 0 0)]⟩ ⟨.live,(List.replicate ((aJ x.natAbs).length+(aJ y.natAbs).length) 0).map dg⟩ wr1 (bw x) (aJ x.natAbs) p2 p3
 obtain⟨f3,wr3,out,r1,r2,r3,r4,r5,r6,r7,r8,r9⟩:=Ap L1 run k ⟨.live,[.sc (.bool (bw x)),aL (aJ x.natAbs)]⟩ ⟨.live,[.sc (.bool false),.sc (.slice none 0 0)]⟩ (bw y) (aJ x.natAbs) (aJ y.natAbs) (bV _) (bV _) hl hk2 (aJ x.natAbs).length 0 f2 wr1 (List.replicate ((aJ x.natAbs).length+(aJ y.natAbs).length) 0)
  (by omega) (Dok.J7 _) (by simp) q2 (by rw[q7,p4]) (by rw[q9,p6,length_replicate]) q3 q4 q5 (fun m _=>PE _ _) (by rw[oy];simp[val])
 obtain⟨st,e1,e2⟩:=UL run k f3 wr3 (bw x) (bw y) (aJ x.natAbs) (aJ y.natAbs) out r7 (by omega) r2 (by rw[r3,q6,p3]) r4 (by rw[r5,q8,p5]) r6
 refine⟨st,?_,?_⟩
 ·rw[bt,bt,aU 2 p1,Oo,ao ((ao q1).trans (bD (bG r1 (by omega))))]
  exact e1
 ·rw[e2,r9,bX,bX,ZI]
theorem re:Ab.Spec base.P 105 EE:=Ab.Spec.bL (C:=CC L1) (cP Mf) fun args rs h=>by
 unfold EE at h
 split at h
 ·split at h
  ·rename_i x y ex ey
   obtain⟨rfl,hx⟩:=dV ex
   obtain⟨rfl,hy⟩:=dV ey
   simp only[OiE] at h
   subst h
   obtain⟨st,e1,e2⟩:=UM (runK (CC L1) 400001) 400001 x y hx hy (by unfold Sm at hx;omega) (by unfold Sm at hy;omega)
   exact⟨400002,_,_,_,_,_,aZ X3 rfl e1 e2,jv _ _,Wk.refl rfl,trivial⟩
  ·cases h
 ·cases h
def lW:Code:=f181.body.getD .skip
def sw:Code:=((f181.body).bind az).getD .skip
abbrev hp1 (out:Ω):Θ:=[⟨.live,out.map dg⟩]
theorem ML(h42:fr.length=42)(h8:nth fr 8 = .sc (.int .i64 (-1))) :
  ∃ fr',ae (CC L) run k sw ⟨fr,hp,wr⟩=some (.exit 0,⟨fr',hp,wr⟩)∧fr'.length=42∧nth fr' 6=nth fr 6∧nth fr' 7=nth fr 7:=by
 simp[sw,f181,h42,h8]
set_option maxHeartbeats 2000000 in
theorem Dd(a out:Ω)(b m R q r:Nat)(ha:Dok a)(hb:0<b)(hb2:b<1000000000)(hR:R<b)(hm:m<a.length)(hl:out.length=a.length)(hl2:a.length<1000000)
  (h42:fr.length=42) (h0:nth fr 0=aL a) (h1:nth fr 1=dg b) (h6:nth fr 6 = .own 0 1 0 a.length true) (h7:nth fr 7 = .sc (.int .u64 (R:Int))) (h8:nth fr 8 = .sc (.int .i64 (m:Int)))
  (hq:q=(R*1000000000+at0 a m) / b) (hr:r=(R*1000000000+at0 a m) % b) :
  ∃ fr' wr',ae (CC L) run k sw ⟨fr,hp1 out,wr⟩=some (.normal,⟨fr',hp1 (out.set m q),wr'⟩)∧fr'.length=42∧nth fr' 0=aL a∧nth fr' 1=dg b∧nth fr' 6 = .own 0 1 0 a.length true∧nth fr' 7 = .sc (.int .u64 (r:Int))∧nth fr' 8 = .sc (.int .i64 ((m:Int) - 1)):=by
 have hda:=eJ a m hm
 have hax:=ha.get hm
 have hov:=jk out m q (by omega)
 rw[de hm] at hq hr
 generalize a[m]=x at *
 have e1:aL a = .imm a.length false (a.map dg):=rfl
 have hdx:dg x = .sc (.int .u32 (x:Int)):=rfl
 have hdb:dg b = .sc (.int .u32 (b:Int)):=rfl
 rw[e1] at h0 ⊢;rw[hdx] at hda;rw[hdb] at h1 ⊢
 obtain⟨s1,hs1⟩:∃ s1,s1=R*1000000000:=⟨_,rfl⟩
 obtain⟨s2,hs2⟩:∃ s2,s2=s1+x:=⟨_,rfl⟩
 rw[← hs1,← hs2] at hq hr
 have hq9:q<1000000000:=by
  rw[hq]
  refine Nat.div_lt_of_lt_mul ?_
  have:(R+1)*1000000000≤b*1000000000:=Nat.mul_le_mul_right _ hR
  rw[Nat.add_mul] at this
  omega
 have hw0:=cp .u64 x (dA (by omega))
 have hwb:=cp .u64 b (dA (by omega))
 have hw1:=lS .u64 R s1 hs1 (dA (by omega))
 have hw2:=dx .u64 s1 x s2 hs2 (dA (by omega))
 have hw3:=adw .u64 s2 b q hq (dA (by omega))
 have hw4:=QW s2 b r hr
 have hw5:bB .u32 (q:Int)=(q:Int):=cp .u32 q (iC (by omega))
 have hwm:=cM m (by omega)
 have hb0 : ¬ (b=0):=by omega
 simp[sw,f181,bc,bm,and_assoc,bj,du,fY,h42,h0,h1,h6,h7,h8,u32,u64,s32,a32,dF,hm,hda,cF,hw0,hwb,hw1,hw2,hw3,hw4,hw5,hwm,hov,hb0,gM q,number,FP.free]
theorem wj (L:Lst)(run:av)(k:Nat)(a:Ω)(b:Nat)(ha:Dok a)(hb:0<b)(hb2:b<1000000000)(hl2:a.length<1000000):∀ (m:Nat) (fr:Ψ) (wr:Ω) (out:Ω) (R:Nat),m≤a.length→out.length=a.length →
  fr.length=42→nth fr 0=aL a→nth fr 1=dg b→nth fr 6 = .own 0 1 0 a.length true→nth fr 7 = .sc (.int .u64 (R:Int))→nth fr 8 = .sc (.int .i64 ((m:Int) - 1)) →
  R=val (a.drop m) % b→val (out.drop m)=val (a.drop m) / b→Dok out →
  ∃ (fr':Ψ) (wr':Ω) (out':Ω),cg (ae (CC L) run k sw) (m+1) ⟨fr,hp1 out,wr⟩=some (.exit 0,⟨fr',hp1 out',wr'⟩)∧fr'.length=42∧nth fr' 6 = .own 0 1 0 a.length true∧nth fr' 7 = .sc (.int .u64 ((val a % b:Nat):Int))∧out'.length=a.length∧Dok out'∧val out'=val a / b
 | 0,fr,wr,out,R,hm,hl,h42,h0,h1,h6,h7,h8,hR,hv,ho=>by
  obtain⟨fr',g1,g2,g3,g4⟩:=ML L run k fr (hp1 out) wr h42 (by rw[h8];rfl)
  simp only[drop_zero] at hR hv
  exact⟨fr',wr,out,br g1,g2,by rw[g3,h6],by rw[g4,h7,hR],hl,ho,hv⟩
 | m+1,fr,wr,out,R,hm,hl,h42,h0,h1,h6,h7,h8,hR,hv,ho=>by
  have h8':nth fr 8 = .sc (.int .i64 (m:Int)):=by rw[h8];simp
  have hRb:R<b:=by rw[hR];exact Nat.mod_lt _ hb
  obtain⟨fr1,wr1,g1,g2,g3,g4,g5,g6,g7⟩:=Dd L run k fr wr a out b m R _ _ ha hb hb2 hRb (by omega) hl hl2 h42 h0 h1 h6 h7 h8' rfl rfl
  have hax:=cn ha m
  obtain⟨d1,d2⟩:=Fu (Q:=val (a.drop (m+1)) / b) (R:=val (a.drop (m+1)) % b) hb (il a m (by omega)) rfl rfl
  rw[← hR] at d1 d2
  obtain⟨fr',wr',out',q1,q2⟩:=wj L run k a b ha hb hb2 hl2 m fr1 wr1 (out.set m ((R*1000000000+at0 a m) / b)) ((R*1000000000+at0 a m) % b) (by omega) (by rw[length_set];exact hl) g2 g3 g4 g5 g6 g7 d2
   (by rw[kX (by omega),val,hv];exact d1)
   (ho.set _ (by
    refine Nat.div_lt_of_lt_mul ?_
    have:(R+1)*1000000000≤b*1000000000:=Nat.mul_le_mul_right _ hRb
    rw[Nat.add_mul] at this
    omega))
  exact⟨fr',wr',out',by rw[bU g1];exact q1,q2⟩
def GZ:Code:=seq1 (seq1 (ai 2 lW))
theorem Dc:ai 2 lW = .seq (.seq GZ (.block 0 (.loop sw))) (ai 3 lW):=rfl
theorem MK (L:Lst)(run:av)(k:Nat)(a:Ω)(p:PV)(hl:a.length<1000000) :
  ∃ fr wr,bh (CC L) run k 2 lW ⟨entry 42 [aL a,p],[],[]⟩=some ⟨fr,hp1 (List.replicate a.length 0),wr⟩∧fr.length=42∧nth fr 0=aL a∧nth fr 1=p∧nth fr 6 = .own 0 1 0 a.length true∧nth fr 7 = .sc (.int .u64 (0:Nat)):=by
 obtain⟨e1,e2,e3⟩:=cb 40 (aL a) p
 generalize entry 42 [aL a,p]=fr0 at *
 have h1:a.length≤cW:=Nat.le_trans (Nat.le_of_lt hl) (by decide)
 rw[show hp1 (List.replicate a.length 0)=[⟨.live,rep a.length [dg 0]⟩] by rw[sK]]
 simp[lW,f181,bh,e1,e2,e3,bM,bm,and_assoc,cl,s32,b32,z32,bd,bZ,h1]
theorem YY(a:Ω)(hl:a.length<1000000)(h42:fr.length=42)(h0:nth fr 0=aL a) :
  ∃ fr',ae (CC L) run k GZ ⟨fr,hp,wr⟩=some (.normal,⟨fr',hp,wr⟩)∧fr'.length=42∧nth fr' 0=aL a∧nth fr' 1=nth fr 1∧nth fr' 6=nth fr 6∧nth fr' 7=nth fr 7∧nth fr' 8 = .sc (.int .i64 ((a.length:Int) - 1)):=by
 have hw:=cM a.length (by omega)
 simp[GZ,lW,f181,seq1,bM,cl,h42,h0,hw]
theorem GY(p:PV)(r:Nat)(hr:r<1000000000)(h42:fr.length=42)(h6:nth fr 6=p)(h7:nth fr 7 = .sc (.int .u64 (r:Int))) :
  ∃ st,ae (CC L) run k (ai 3 lW) ⟨fr,hp,wr⟩=some (.ret,st)∧aY TT st.fr st.hp f181.results.toList=some [p,dg r]∧st.hp=hp:=by
 have hw5:bB .u32 (r:Int)=(r:Int):=cp .u32 r (iC (by omega))
 simp[lW,f181,and_assoc,u32,u64,dF,h42,h6,h7,hw5,aY,gM r]
def dg?:PV→Option Nat
 | .sc (.int .u32 (.ofNat n))=>bif n.blt 1000000000 then some n else none
 | _=>none
theorem Ww {p:PV}{n:Nat}(h:dg? p=some n):p=dg n∧n<1000000000:=by
 unfold dg? at h
 split at h
 ·rename_i m
  cases hb:m.blt 1000000000 with
  | false=>rw[hb] at h;cases h
  | true =>
   rw[hb] at h
   simp at h;subst h
   exact⟨rfl,by simpa [Nat.blt_eq] using hb⟩
 ·cases h
theorem Wx {n:Nat}(h:n<1000000000):dg? (dg n)=some n:=by
 have:n.blt 1000000000=true:=by rw[Nat.blt_eq];exact h
 show (bif n.blt 1000000000 then some n else none)=some n
 rw[this];rfl
def nf:Ψ→Option Ψ
 | [p,q]=>match gU p,dg? q with
  | some a,some (b+1)=>some [aL (db a.length (val a / (b+1))),dg (val a % (b+1))]
  | _,_=>none
 | _=>none
theorem wi:Ab.Spec base.P 181 nf:=Ab.Spec.bL (C:=CC []) (cP trivial) fun args rs h=>by
 unfold nf at h
 split at h
 ·split at h
  ·rename_i a b ea eb
   obtain⟨rfl,ha,hla⟩:=dy ea
   obtain⟨rfl,hb⟩:=Ww eb
   simp only[OiE] at h
   subst h
   obtain⟨f1,wr1,p1,p2,p3,p4,p5,p6⟩:=MK [] (runK (CC []) (a.length+1)) (a.length+1) a (dg (b+1)) hla
   obtain⟨f2,q1,q2,q3,q4,q5,q6,q7⟩:=YY [] (runK (CC []) (a.length+1)) (a.length+1) f1 (hp1 (List.replicate a.length 0)) wr1 a hla p2 p3
   obtain⟨f3,wr3,out,r1,r2,r3,r4,r5,r6,r7⟩:=wj [] (runK (CC []) (a.length+1)) (a.length+1) a (b+1) ha (by omega) hb hla a.length f2 wr1 (List.replicate a.length 0) 0 (Nat.le_refl _) (by simp) q2 q3 (by rw[q4,p4]) (by rw[q5,p5]) (by rw[q6,p6]) q7 (by simp[val]) (by simp[val]) (Dok.J7 _)
   obtain⟨st,e1,e2,e3⟩:=GY [] (runK (CC []) (a.length+1)) (a.length+1) f3 (hp1 out) wr3 _ (val a % (b+1)) (Nat.lt_of_lt_of_le (Nat.mod_lt _ (by omega)) (by omega)) r2 r3 r4
   have hx:ae (CC []) (runK (CC []) (a.length+1)) (a.length+1) lW ⟨entry 42 [aL a,dg (b+1)],[],[]⟩=some (.ret,st):=by
    rw[aU 2 p1,Dc,ao ((ao q1).trans (bD r1))]
    exact e1
   have hout:out=db a.length (val a / (b+1)):=r6.pQ r5 r7
   refine⟨a.length+2,_,_,_,[.imm a.length true (out.map dg),dg (val a % (b+1))],[0],aZ JK rfl hx e2,?_,?_⟩
   ·rw[e3,← r5]
    have hs:=jY (hp1 out) 10 out
    have:snap (hp1 out) 12 (.own 0 1 0 out.length true)=some (.imm out.length true (out.map dg),[0]):=by
     rw[snap]
     have h:aX (hp1 out) 0=some ⟨.live,out.map dg⟩:=rfl
     simp only[h]
     rw[if_neg (by simp),CY]
     simp only[hs]
    simp only[bn,bu,this]
    rfl
   ·refine⟨?_,Wk.refl rfl,trivial⟩
    rw[← hout]
    have:=Wk.imm a.length true (out.map dg)
    rw[← r5] at this ⊢
    exact this
  ·cases h
 ·cases h
end Go.Proofs.YtjdmodeenbdfpaaGreat
end
