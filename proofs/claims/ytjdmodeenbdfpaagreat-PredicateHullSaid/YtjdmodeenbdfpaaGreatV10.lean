/- Contracts of num's integers, part 10; each lemma states its conditions. -/
import Derived.Test.YtjdmodeenbdfpaaGreatV09
import Derived.Test.YtjdmodeenbdfpaaGreatV06
set_option linter.unusedSimpArgs false
set_option linter.unusedVariables false
noncomputable section
namespace Go.Proofs.YtjdmodeenbdfpaaGreat
open Go Go.Ab List Tryz
attribute [local simp] FzZ aA aC aF aG aH aZ aa ab ae af ag ah ai aj an ao aq au av bc bf uD
variable(L:Lst)(run:aw)(k:Nat)(fr:Ψ)(hp:Θ)(wr:Ω)
def mulC:Code:=f105.body.getD .skip
def og:Code:=((f105.body).bind aA).getD .skip
def O3:Code:=(aA og).getD .skip
abbrev hpM (b0 b1 b2:Blk)(out:Ω):Θ:=[b0,b1,b2,⟨.live,out.map dg⟩]
theorem VM(n:Nat)(h78:fr.length=78)(h29:nth fr 29 = .sc (.int .i64 (n:Int)))(h30:nth fr 30 = .sc (.int .i64 (n:Int))) :
  ∃ fr',ae (CC L) run k O3 ⟨fr,hp,wr⟩=some (.exit 2,⟨fr',hp,wr⟩)∧fr'.length=78∧nth fr' 2=nth fr 2∧nth fr' 3=nth fr 3∧nth fr' 4=nth fr 4∧nth fr' 5=nth fr 5∧nth fr' 6=nth fr 6∧nth fr' 8=nth fr 8∧nth fr' 20=nth fr 20∧nth fr' 21=nth fr 21∧nth fr' 22=nth fr 22:=by
 simp[O3,og,f105,h78,h29,h30]
set_option maxHeartbeats 4000000 in
theorem IP (L:Lst)(run:aw)(k:Nat)(fr:Ψ)(b0 b1 b2:Blk)(wr:Ω)(b out:Ω)(i j c x q r:Nat)(hb:Dok b)(ho:Dok out)(hx:x<1000000000)(hc:c<1000000000)(hj:j<b.length)(hij:i+j<out.length)(hl:out.length<1000000)
  (h78:fr.length=78) (h5:nth fr 5 = .own 3 1 0 out.length true) (h6:nth fr 6 = .sc (.int .i64 (i:Int))) (h7:nth fr 7 = .sc (.int .u32 (x:Int))) (h8:nth fr 8 = .sc (.int .u64 (c:Int)))
  (h28:nth fr 28=aP b) (h29:nth fr 29 = .sc (.int .i64 (b.length:Int))) (h30:nth fr 30 = .sc (.int .i64 (j:Int))) (hr:r=(c+(x*at0 b j+at0 out (i+j))) % 1000000000) (hq:q=(c+(x*at0 b j+at0 out (i+j))) / 1000000000) :
  ∃ fr' wr',ae (CC L) run k O3 ⟨fr,hpM b0 b1 b2 out,wr⟩=some (.normal,⟨fr',hpM b0 b1 b2 (out.set (i+j) r),wr'⟩)∧fr'.length=78∧nth fr' 8 = .sc (.int .u64 (q:Int))∧nth fr' 30 = .sc (.int .i64 ((j+1:Nat):Int))
   ∧ nth fr' 2=nth fr 2∧nth fr' 3=nth fr 3∧nth fr' 4=nth fr 4∧nth fr' 5=nth fr 5∧nth fr' 6=nth fr 6∧nth fr' 7=nth fr 7∧nth fr' 20=nth fr 20∧nth fr' 21=nth fr 21∧nth fr' 22=nth fr 22∧nth fr' 28=nth fr 28∧nth fr' 29=nth fr 29:=by
 have hdb:=eM b j hj
 have hdo:=eM out (i+j) hij
 have hby:=hb.get hj
 have hoy:=ho.get hij
 have hov:=jw out (i+j) r hij
 rw[dc hj,dc hij] at hr hq
 generalize b[j]=y at *
 generalize out[i+j]=o at *
 have e2:aP b = .imm b.length false (b.map dg):=rfl
 have hdy:dg y = .sc (.int .u32 (y:Int)):=rfl
 have hdo':dg o = .sc (.int .u32 (o:Int)):=rfl
 rw[e2] at h28;rw[hdy] at hdb;rw[hdo'] at hdo
 have hxy:x*y≤999999999*999999999:=Nat.mul_le_mul (by omega) (by omega)
 obtain⟨s1,hs1⟩:∃ s1,s1=x*y:=⟨_,rfl⟩
 rw[← hs1] at hr hq hxy
 obtain⟨s2,hs2⟩:∃ s2,s2=s1+o:=⟨_,rfl⟩
 rw[← hs2] at hr hq
 obtain⟨s3,hs3⟩:∃ s3,s3=c+s2:=⟨_,rfl⟩
 rw[← hs3] at hr hq
 have hw0:=cq .u64 x (dA (by omega))
 have hw1:=cq .u64 y (dA (by omega))
 have hw2:=cq .u64 o (dA (by omega))
 have hw3:=wrapM .u64 x y s1 hs1 (dA (by omega))
 have hw4:=dm .u64 s1 o s2 hs2 (dA (by omega))
 have hw5:=dm .u64 c s2 s3 hs3 (dA (by omega))
 have hw6:=jO .u64 s3 q hq (dA (by omega))
 have hw9:bA .u32 (r:Int)=(r:Int):=cq .u32 r (iX (by omega))
 have hw7:=dm .i64 i j (i+j) rfl (hiI (by omega))
 obtain⟨p,hp⟩:∃ p,p=i+j:=⟨_,rfl⟩
 have hwj:=bD j (by omega)
 rw[← hp] at hw7 hdo hov hij ⊢
 have hw8:=lQ s3 r hr
 simp[O3,og,f105,bd,bn,partOf,and_assoc,bg,dq,gi,h78,h5,h6,h7,h8,h28,h29,h30,u32,u64,s32,a32,dD,hj,hij,hdb,hdo,aU,aL,cg,hw0,hw1,hw2,hw3,hw4,hw5,hw6,hw7,hw8,hw9,hwj,hov,gU r]
theorem gk {l:Ω}{p m y:Nat}(h:p≠m):at0 (l.set p y) m=at0 l m:=by
 simp[at0,getElem?_set_ne h]
theorem C4 (l:Ω)(p y:Nat)(h:p<l.length):val (l.set p y)+at0 l p*1000000000 ^ p=val l+y*1000000000 ^ p:=by
 rw[dc h];exact qH l p y h
theorem VB {V0 vo vo' c x y o P Q q r vb:Nat}(h:vo+c*P=V0+x*vb*Q)(hv:vo'+o*P=vo+r*P)(hr:r=(c+(x*y+o)) % 1000000000)(hq:q=(c+(x*y+o)) / 1000000000)(R:Nat)(hP:P=R*Q) :
  vo'+q*(P*1000000000)=V0+x*(vb+y*R)*Q:=by
 have e:c+(x*y+o)=r+1000000000*q:=by omega
 have e2:(c+(x*y+o))*P=(r+1000000000*q)*P:=by rw[e]
 simp only[Nat.add_mul] at e2
 have e3:1000000000*q*P=q*(P*1000000000):=by grind
 have e4:x*(vb+y*R)*Q=x*vb*Q+x*y*P:=by subst hP;grind
 rw[e4]
 omega
def Kept (fr fr':Ψ):Prop:=nth fr' 2=nth fr 2∧nth fr' 3=nth fr 3∧nth fr' 4=nth fr 4∧nth fr' 5=nth fr 5∧nth fr' 6=nth fr 6∧nth fr' 20=nth fr 20∧nth fr' 21=nth fr 21∧nth fr' 22=nth fr 22
theorem AI (L:Lst)(run:aw)(k:Nat)(b0 b1 b2:Blk)(b:Ω)(i x V0:Nat)(hb:Dok b)(hx:x<1000000000):∀ (n j:Nat) (fr:Ψ) (wr:Ω) (out:Ω) (c:Nat),j+n=b.length→Dok out→c<1000000000→i+b.length≤out.length→out.length<1000000 →
  fr.length=78→nth fr 5 = .own 3 1 0 out.length true→nth fr 6 = .sc (.int .i64 (i:Int))→nth fr 7 = .sc (.int .u32 (x:Int))→nth fr 8 = .sc (.int .u64 (c:Int)) →
  nth fr 28=aP b→nth fr 29 = .sc (.int .i64 (b.length:Int))→nth fr 30 = .sc (.int .i64 (j:Int))→val out+c*1000000000 ^ (i+j)=V0+x*val (b.take j)*1000000000 ^ i →
  ∃ (fr':Ψ) (wr':Ω) (out':Ω) (c':Nat),cb (ae (CC L) run k O3) (n+1) ⟨fr,hpM b0 b1 b2 out,wr⟩=some (.exit 2,⟨fr',hpM b0 b1 b2 out',wr'⟩)∧fr'.length=78∧Kept fr fr'∧nth fr' 8 = .sc (.int .u64 (c':Int))
   ∧ Dok out'∧c'<1000000000∧out'.length=out.length∧val out'+c'*1000000000 ^ (i+b.length)=V0+x*val b*1000000000 ^ i∧∀ m,i+b.length≤m→at0 out' m=at0 out m
 | 0,j,fr,wr,out,c,hj,ho,hc,hil,hl,h78,h5,h6,h7,h8,h28,h29,h30,hv=>by
  have:j=b.length:=by omega
  subst this
  obtain⟨fr',g1,g2,g3,g4,g5,g6,g7,g8,g9,g10,g11⟩:=VM L run k fr (hpM b0 b1 b2 out) wr b.length h78 h29 h30
  exact⟨fr',wr,out,c,bu g1,g2,⟨g3,g4,g5,g6,g7,g9,g10,g11⟩,by rw[g8,h8],ho,hc,rfl,by rw[hv,take_length],fun m _=>rfl⟩
 | n+1,j,fr,wr,out,c,hj,ho,hc,hil,hl,h78,h5,h6,h7,h8,h28,h29,h30,hv=>by
  have hy:=cn hb j
  have hoo:=cn ho (i+j)
  have hxy:x*at0 b j≤999999999*999999999:=Nat.mul_le_mul (by omega) (by omega)
  obtain⟨fr1,wr1,g1,g2,g3,g4,g5,g6,g7,g8,g9,g10,g11,g12,g13,g14,g15⟩:=IP L run k fr b0 b1 b2 wr b out i j c x _ _ hb ho hx hc (by omega) (by omega) hl h78 h5 h6 h7 h8 h28 h29 h30 rfl rfl
  obtain⟨fr',wr',out',c',q1,q2,q3,q4,q5,q6,q7,q8,q9⟩:=AI L run k b0 b1 b2 b i x V0 hb hx n (j+1) fr1 wr1 _ _ (by omega) (ho.set (i+j) (Nat.mod_lt _ (by omega)))
   (show (c+(x*at0 b j+at0 out (i+j))) / 1000000000<1000000000 by omega) (by rw[length_set];exact hil) (by rw[length_set];exact hl) g2 (by rw[g8,h5,length_set]) (by rw[g9,h6]) (by rw[g10,h7]) g3 (by rw[g14,h28]) (by rw[g15,h29]) g4
   (by
    have hvs:=C4 out (i+j) ((c+(x*at0 b j+at0 out (i+j))) % 1000000000) (by omega)
    rw[cu,show i+(j+1)=i+j+1 by omega,Nat.pow_succ]
    exact VB hv hvs rfl rfl (1000000000 ^ j) (by rw[Nat.pow_add,Nat.mul_comm]))
  obtain⟨k1,k2,k3,k4,k5,k6,k7,k8⟩:=q3
  refine⟨fr',wr',out',c',by rw[bT g1];exact q1,q2,⟨by rw[k1,g5],by rw[k2,g6],by rw[k3,g7],by rw[k4,g8],by rw[k5,g9],by rw[k6,g11],by rw[k7,g12],by rw[k8,g13]⟩,q4,q5,q6,by rw[q7,length_set],q8,fun m hm => ?_⟩
  rw[q9 m hm,gk (by omega)]
def pL:Code:=match ai 2 og with | .seq (.block _ c) _=>c | c=>c
def VL:Code:=match ai 2 og with | .seq _ c=>c | c=>c
theorem IL:ai 2 og = .seq (.block 1 pL) VL:=rfl
def VF:Code:=seq1 (seq1 (ai 2 pL))
theorem EX:ai 2 pL = .seq (.seq VF (.block 2 (.loop O3))) (ai 3 pL):=rfl
theorem VJ(n:Nat)(h78:fr.length=78)(h21:nth fr 21 = .sc (.int .i64 (n:Int)))(h22:nth fr 22 = .sc (.int .i64 (n:Int))) :
  ∃ fr',ae (CC L) run k og ⟨fr,hp,wr⟩=some (.exit 0,⟨fr',hp,wr⟩)∧fr'.length=78∧nth fr' 2=nth fr 2∧nth fr' 3=nth fr 3∧nth fr' 4=nth fr 4∧nth fr' 5=nth fr 5:=by
 simp[og,f105,h78,h21,h22]
theorem VI(i n:Nat)(hi:i<n)(h78:fr.length=78)(h21:nth fr 21 = .sc (.int .i64 (n:Int)))(h22:nth fr 22 = .sc (.int .i64 (i:Int))) :
  ∃ fr',bh (CC L) run k 2 og ⟨fr,hp,wr⟩=some ⟨fr',hp,wr⟩∧fr'.length=78∧nth fr' 2=nth fr 2∧nth fr' 3=nth fr 3∧nth fr' 4=nth fr 4∧nth fr' 5=nth fr 5∧nth fr' 20=nth fr 20∧nth fr' 21=nth fr 21∧nth fr' 22=nth fr 22:=by
 simp[og,f105,bh,h78,h21,h22,hi]
theorem O2(a:Ω)(i:Nat)(hi:i<a.length)(h78:fr.length=78)(h20:nth fr 20=aP a)(h22:nth fr 22 = .sc (.int .i64 (i:Int))) :
  ∃ fr',bh (CC L) run k 2 pL ⟨fr,hp,wr⟩=some ⟨fr',hp,wr⟩∧fr'.length=78∧nth fr' 6 = .sc (.int .i64 (i:Int))∧nth fr' 7 = .sc (.int .u32 (at0 a i:Int))∧nth fr' 8 = .sc (.int .u64 (0:Nat))∧nth fr' 2=nth fr 2∧nth fr' 3=nth fr 3∧nth fr' 4=nth fr 4∧nth fr' 5=nth fr 5∧nth fr' 20=nth fr 20∧nth fr' 21=nth fr 21∧nth fr' 22=nth fr 22:=by
 have hda:=eM a i hi
 rw[dc hi]
 generalize a[i]=x at *
 have e2:aP a = .imm a.length false (a.map dg):=rfl
 have hdx:dg x = .sc (.int .u32 (x:Int)):=rfl
 rw[e2] at h20;rw[hdx] at hda
 simp[pL,og,f105,bh,bd,bn,partOf,h78,h20,h22,hi,s32,a32,hda,aU]
theorem VE (L:Lst)(run:aw)(k:Nat)(fr:Ψ)(b0 b2 b3:Blk)(wr:Ω)(nb:Bool)(b:Ω)(h78:fr.length=78)(h3:nth fr 3 = .ptr 1 0) :
  ∃ fr',ae (CC L) run k VF ⟨fr,[b0,⟨.live,[.sc (.bool nb),aP b]⟩,b2,b3],wr⟩=some (.normal,⟨fr',[b0,⟨.live,[.sc (.bool nb),aP b]⟩,b2,b3],wr⟩)∧fr'.length=78∧nth fr' 28=aP b∧nth fr' 29 = .sc (.int .i64 (b.length:Int))∧nth fr' 30 = .sc (.int .i64 (0:Nat))
   ∧ nth fr' 2=nth fr 2∧nth fr' 3=nth fr 3∧nth fr' 4=nth fr 4∧nth fr' 5=nth fr 5∧nth fr' 6=nth fr 6∧nth fr' 7=nth fr 7∧nth fr' 8=nth fr 8∧nth fr' 20=nth fr 20∧nth fr' 21=nth fr 21∧nth fr' 22=nth fr 22:=by
 simp[VF,pL,og,f105,seq1,bL,bM,partOf,cm,h78,h3,uW,sD,aD,wf0,wf1,aU,aL,bp]
theorem VH (L:Lst)(run:aw)(k:Nat)(fr:Ψ)(b0 b2:Blk)(wr:Ω)(nb:Bool)(b out:Ω)(i c:Nat)(hc:c<1000000000)(hi:i+b.length<out.length)(hl:out.length<1000000)
  (h78:fr.length=78) (h3:nth fr 3 = .ptr 1 0) (h5:nth fr 5 = .own 3 1 0 out.length true) (h6:nth fr 6 = .sc (.int .i64 (i:Int))) (h8:nth fr 8 = .sc (.int .u64 (c:Int))) :
  ∃ fr' wr',ae (CC L) run k (ai 3 pL) ⟨fr,hpM b0 ⟨.live,[.sc (.bool nb),aP b]⟩ b2 out,wr⟩=some (.normal,⟨fr',hpM b0 ⟨.live,[.sc (.bool nb),aP b]⟩ b2 (out.set (i+b.length) c),wr'⟩)∧fr'.length=78
   ∧ nth fr' 2=nth fr 2∧nth fr' 3=nth fr 3∧nth fr' 4=nth fr 4∧nth fr' 5=nth fr 5∧nth fr' 20=nth fr 20∧nth fr' 21=nth fr 21∧nth fr' 22=nth fr 22:=by
 have hw7:=dm .i64 i b.length (i+b.length) rfl (hiI (by omega))
 have hov:=jw out (i+b.length) c hi
 have hw9:bA .u32 (c:Int)=(c:Int):=cq .u32 c (iX (by omega))
 obtain⟨p,hp⟩:∃ p,p=i+b.length:=⟨_,rfl⟩
 rw[← hp] at hw7 hov hi ⊢
 simp[pL,og,f105,bL,bd,bM,bn,partOf,and_assoc,cm,bg,dq,gi,h78,h3,h5,h6,h8,uW,u32,u64,sD,s32,aD,wf0,wf1,dD,aU,aL,cg,bp,hw7,hw9,hov,hi,gU c]
theorem VK(i:Nat)(hi:i<1000000)(h78:fr.length=78)(h22:nth fr 22 = .sc (.int .i64 (i:Int))) :
  ∃ fr',ae (CC L) run k VL ⟨fr,hp,wr⟩=some (.normal,⟨fr',hp,wr⟩)∧fr'.length=78∧nth fr' 22 = .sc (.int .i64 ((i+1:Nat):Int))∧nth fr' 2=nth fr 2∧nth fr' 3=nth fr 3∧nth fr' 4=nth fr 4∧nth fr' 5=nth fr 5∧nth fr' 20=nth fr 20∧nth fr' 21=nth fr 21:=by
 have hw:=bD i (by omega)
 simp[VL,og,f105,h78,h22,hw]
theorem IM (L:Lst)(run:aw)(k:Nat)(fr:Ψ)(b0 b2:Blk)(wr:Ω)(nb:Bool)(a b out:Ω)(i:Nat)(ha:Dok a)(hb:Dok b)(ho:Dok out)(hi:i<a.length)(hil:out.length=a.length+b.length)(hl:out.length<1000000)(hk:b.length<k)
  (h78:fr.length=78) (h3:nth fr 3 = .ptr 1 0) (h5:nth fr 5 = .own 3 1 0 out.length true) (h20:nth fr 20=aP a) (h21:nth fr 21 = .sc (.int .i64 (a.length:Int))) (h22:nth fr 22 = .sc (.int .i64 (i:Int)))
  (hz:∀ m,i+b.length≤m→at0 out m=0) (hv:val out=val (a.take i)*val b) :
  ∃ (fr':Ψ) (wr':Ω) (out':Ω),ae (CC L) run k og ⟨fr,hpM b0 ⟨.live,[.sc (.bool nb),aP b]⟩ b2 out,wr⟩=some (.normal,⟨fr',hpM b0 ⟨.live,[.sc (.bool nb),aP b]⟩ b2 out',wr'⟩)∧fr'.length=78
   ∧ nth fr' 2=nth fr 2∧nth fr' 3 = .ptr 1 0∧nth fr' 4=nth fr 4∧nth fr' 5 = .own 3 1 0 out'.length true∧nth fr' 20=aP a∧nth fr' 21 = .sc (.int .i64 (a.length:Int))∧nth fr' 22 = .sc (.int .i64 ((i+1:Nat):Int))
   ∧ Dok out'∧out'.length=out.length∧(∀ m,i+1+b.length≤m→at0 out' m=0)∧val out'=val (a.take (i+1))*val b:=by
 obtain⟨f1,p1,p2,p3,p4,p5,p6,p7,p8,p9⟩:=VI L run k fr (hpM b0 ⟨.live,[.sc (.bool nb),aP b]⟩ b2 out) wr i a.length hi h78 h21 h22
 obtain⟨f2,q1,q2,q3,q4,q5,q6,q7,q8,q9,q10,q11,q12⟩:=O2 L run k f1 (hpM b0 ⟨.live,[.sc (.bool nb),aP b]⟩ b2 out) wr a i hi p2 (by rw[p7,h20]) (by rw[p9,h22])
 obtain⟨f3,r1,r2,r3,r4,r5,r6,r7,r8,r9,r10,r11,r12,r13,r14,r15⟩:=VE L run k f2 b0 b2 ⟨.live,out.map dg⟩ wr nb b q2 (by rw[q7,p4,h3])
 have hx:=cn ha i
 obtain⟨f4,wr4,out4,c,t1,t2,t3,t4,t5,t6,t7,t8,t9⟩:=AI L run k b0 ⟨.live,[.sc (.bool nb),aP b]⟩ b2 b i (at0 a i) (val (a.take i)*val b) hb hx b.length 0 f3 wr out 0 (by omega) ho (by omega) (by omega) hl r2
  (by rw[r9,q9,p6,h5]) (by rw[r10,q3]) (by rw[r11,q4]) (by rw[r12,q5]) r3 r4 r5 (by rw[take_zero,hv];simp[val])
 obtain⟨k1,k2,k3,k4,k5,k6,k7,k8⟩:=t3
 have h54:nth f4 5 = .own 3 1 0 out4.length true:=by rw[k4,r9,q9,p6,h5,t7]
 obtain⟨f5,wr5,u1,u2,u3,u4,u5,u6,u7,u8,u9⟩:=VH L run k f4 b0 b2 wr4 nb b out4 i c t6 (by omega) (by omega) t2 (by rw[k2,r7,q7,p4,h3]) h54 (by rw[k5,r10,q3]) t4
 obtain⟨f6,w1,w2,w3,w4,w5,w6,w7,w8,w9⟩:=VK L run k f5 (hpM b0 ⟨.live,[.sc (.bool nb),aP b]⟩ b2 (out4.set (i+b.length) c)) wr5 i (by omega) u2 (by rw[u9,k8,r15,q12,p9,h22])
 refine⟨f6,wr5,out4.set (i+b.length) c,?_,w2,?_,?_,?_,?_,?_,?_,w3,t5.set _ t6,?_,?_,?_⟩
 ·rw[aY 2 p1,IL]
  have hB:ae (CC L) run k pL ⟨f1,hpM b0 ⟨.live,[.sc (.bool nb),aP b]⟩ b2 out,wr⟩=some (.normal,⟨f5,hpM b0 ⟨.live,[.sc (.bool nb),aP b]⟩ b2 (out4.set (i+b.length) c),wr5⟩):=by
   rw[aY 2 q1,EX,ar ((ar r1).trans (bE (bK t1 (by omega))))]
   exact u1
  rw[ar (fF hB)]
  exact w1
 ·rw[w4,u3,k1,r6,q6,p3]
 ·rw[w5,u4,k2,r7,q7,p4,h3]
 ·rw[w6,u5,k3,r8,q8,p5]
 ·rw[w7,u6,h54,length_set]
 ·rw[w8,u7,k6,r13,q10,p7,h20]
 ·rw[w9,u8,k7,r14,q11,p8,h21]
 ·rw[length_set,t7]
 ·intro m hm
  rw[gk (by omega),t9 m (by omega),hz m (by omega)]
 ·have hs:=C4 out4 (i+b.length) c (by omega)
  rw[t9 _ (Nat.le_refl _),hz _ (Nat.le_refl _),Nat.zero_mul,Nat.add_zero,t8] at hs
  rw[hs,cu,Nat.add_mul]
  grind
theorem AH (L:Lst)(run:aw)(k:Nat)(b0 b2:Blk)(nb:Bool)(a b:Ω)(ha:Dok a)(hb:Dok b)(hl:a.length+b.length<1000000)(hk:b.length<k):∀ (n i:Nat) (fr:Ψ) (wr:Ω) (out:Ω),i+n=a.length→Dok out→out.length=a.length+b.length →
  fr.length=78→nth fr 3 = .ptr 1 0→nth fr 5 = .own 3 1 0 out.length true→nth fr 20=aP a→nth fr 21 = .sc (.int .i64 (a.length:Int))→nth fr 22 = .sc (.int .i64 (i:Int))→(∀ m,i+b.length≤m→at0 out m=0)→val out=val (a.take i)*val b →
  ∃ (fr':Ψ) (wr':Ω) (out':Ω),cb (ae (CC L) run k og) (n+1) ⟨fr,hpM b0 ⟨.live,[.sc (.bool nb),aP b]⟩ b2 out,wr⟩=some (.exit 0,⟨fr',hpM b0 ⟨.live,[.sc (.bool nb),aP b]⟩ b2 out',wr'⟩)∧fr'.length=78
   ∧ nth fr' 2=nth fr 2∧nth fr' 3 = .ptr 1 0∧nth fr' 4=nth fr 4∧nth fr' 5 = .own 3 1 0 out'.length true∧Dok out'∧out'.length=a.length+b.length∧val out'=val a*val b
 | 0,i,fr,wr,out,hi,ho,hil,h78,h3,h5,h20,h21,h22,hz,hv=>by
  have:i=a.length:=by omega
  subst this
  obtain⟨fr',g1,g2,g3,g4,g5,g6⟩:=VJ L run k fr (hpM b0 ⟨.live,[.sc (.bool nb),aP b]⟩ b2 out) wr a.length h78 h21 h22
  exact⟨fr',wr,out,bu g1,g2,g3,by rw[g4,h3],g5,by rw[g6,h5],ho,hil,by rw[hv,take_length]⟩
 | n+1,i,fr,wr,out,hi,ho,hil,h78,h3,h5,h20,h21,h22,hz,hv=>by
  obtain⟨f1,wr1,IG,g1,g2,g3,g4,g5,g6,g7,g8,g9,g10,g11,g12,g13⟩:=IM L run k fr b0 b2 wr nb a b out i ha hb ho (by omega) hil (by omega) hk h78 h3 h5 h20 h21 h22 hz hv
  obtain⟨fr',wr',out',q1,q2,q3,q4,q5,q6⟩:=AH L run k b0 b2 nb a b ha hb hl hk n (i+1) f1 wr1 IG (by omega) g10 (by omega) g2 g4 g6 g7 g8 g9 g12 g13
  exact⟨fr',wr',out',by rw[bT g1];exact q1,q2,by rw[q3,g3],q4,by rw[q5,g5],q6⟩
def VG:Code:=seq1 (seq1 (ai 2 mulC))
theorem O1:ai 2 mulC = .seq (.seq VG (.block 0 (.loop og))) (ai 3 mulC):=rfl
theorem acs (L:Lst)(run:aw)(k:Nat)(na nb:Bool)(a b:Ω)(hl:a.length+b.length<1000000) :
  ∃ fr wr,bh (CC L) run k 2 mulC ⟨entry 78 [wh na a,wh nb b],[],[]⟩=some ⟨fr,hpM ⟨.live,[.sc (.bool na),aP a]⟩ ⟨.live,[.sc (.bool nb),aP b]⟩ ⟨.live,[.sc (.bool false),.sc (.slice none 0 0)]⟩ (List.replicate (a.length+b.length) 0),wr⟩∧fr.length=78
   ∧ nth fr 2 = .ptr 0 0∧nth fr 3 = .ptr 1 0∧nth fr 4 = .ptr 2 0∧nth fr 5 = .own 3 1 0 (a.length+b.length) true:=by
 obtain⟨e1,e2,e3⟩:=cl 76 (wh na a) (wh nb b)
 generalize entry 78 [wh na a,wh nb b]=fr0 at *
 have e4:∀ n l,wh n l = .agg [.sc (.bool n),aP l]:=fun _ _=>rfl
 rw[e4] at e2 e3
 have hw7:=dm .i64 a.length b.length (a.length+b.length) rfl (hiI (by omega))
 rw[show hpM ⟨.live,[.sc (.bool na),aP a]⟩ ⟨.live,[.sc (.bool nb),aP b]⟩ ⟨.live,[.sc (.bool false),.sc (.slice none 0 0)]⟩ (List.replicate (a.length+b.length) 0)=[⟨.live,[.sc (.bool na),aP a]⟩,⟨.live,[.sc (.bool nb),aP b]⟩,⟨.live,[.sc (.bool false),.sc (.slice none 0 0)]⟩,⟨.live,rep (a.length+b.length) [dg 0]⟩] by rw[sT]]
 have h1:a.length+b.length≤cS:=Nat.le_trans (Nat.le_of_lt hl) (by decide)
 generalize hp:a.length+b.length=p at *
 simp[mulC,f105,bh,e1,e2,e3,bL,bM,bn,partOf,and_assoc,cm,bm,uW,sD,s32,b32,z32,zW,aD,wf0,wf1,aO,aU,aL,bp,hw7,ch,h1]
theorem agt (L:Lst)(run:aw)(k:Nat)(fr:Ψ)(b1 b2 b3:Blk)(wr:Ω)(na:Bool)(a:Ω)(h78:fr.length=78)(h2:nth fr 2 = .ptr 0 0) :
  ∃ fr',ae (CC L) run k VG ⟨fr,[⟨.live,[.sc (.bool na),aP a]⟩,b1,b2,b3],wr⟩=some (.normal,⟨fr',[⟨.live,[.sc (.bool na),aP a]⟩,b1,b2,b3],wr⟩)∧fr'.length=78∧nth fr' 20=aP a∧nth fr' 21 = .sc (.int .i64 (a.length:Int))∧nth fr' 22 = .sc (.int .i64 (0:Nat))
   ∧ nth fr' 2=nth fr 2∧nth fr' 3=nth fr 3∧nth fr' 4=nth fr 4∧nth fr' 5=nth fr 5:=by
 simp[VG,mulC,f105,seq1,bL,bM,partOf,cm,h78,h2,uW,sD,aD,wf0,wf1,aU,aL,bp]
theorem vh(dr:Bool)(b0 b1 b2:Blk)(n:Bool)(l:Ω)(hd:Dok l)(hl:l.length<1000000) :
  bP (CC L1) run dr (hpM b0 b1 b2 l) 152 [.sc (.bool n),.own 3 1 0 l.length true]=some (br (sgn n (val l)),[b0,b1,b2,⟨.ro,l.map dg⟩],⟨[3],[3],false,false⟩):=by
 have h1:bw (snap (hpM b0 b1 b2 l) bq) [.sc (.bool n),.own 3 1 0 l.length true]=some ([.sc (.bool n),.imm l.length true (l.map dg)],[3]):=by
  have hs:=kl (hpM b0 b1 b2 l) 10 l
  have:snap (hpM b0 b1 b2 l) 12 (.own 3 1 0 l.length true)=some (.imm l.length true (l.map dg),[3]):=by
   rw[snap]
   have h:aL (hpM b0 b1 b2 l) 3=some ⟨.live,l.map dg⟩:=rfl
   simp only[h]
   rw[if_neg (by simp),Da]
   simp only[hs]
  simp only[bq,bw,this]
  rfl
 have h2:aK [.sc (.bool n),.imm l.length true (l.map dg)]=[.sc (.bool n),aP l]:=by
  simp only[aK,canon,jo];rfl
 have h3:(CC L1).orc 152 [.sc (.bool n),.imm l.length true (l.map dg)]=some [br (sgn n (val l))]:=by
  show fA (aK [.sc (.bool n),.imm l.length true (l.map dg)])=_
  rw[h2]
  simp only[fA,cW hd hl]
 have:=eJ (run:=run) (dr:=dr) oU h1 h3 rfl
 rw[this]
 rfl
theorem VC(na nb:Bool)(a b out:Ω)(hd:Dok out)(hl:out.length<1000000)(h78:fr.length=78)(h2:nth fr 2 = .ptr 0 0)(h3:nth fr 3 = .ptr 1 0)(h4:nth fr 4 = .ptr 2 0)(h5:nth fr 5 = .own 3 1 0 out.length true) :
  ∃ st,ae (CC L1) run k (ai 3 mulC) ⟨fr,hpM ⟨.live,[.sc (.bool na),aP a]⟩ ⟨.live,[.sc (.bool nb),aP b]⟩ ⟨.live,[.sc (.bool false),.sc (.slice none 0 0)]⟩ out,wr⟩=some (.ret,st)∧aX TT st.fr st.hp f105.results.toList=some [br (sgn (na != nb) (val out))]:=by
 have hc:=fun dr=>vh run dr ⟨.live,[.sc (.bool na),aP a]⟩ ⟨.live,[.sc (.bool nb),aP b]⟩ ⟨.live,[.sc (.bool false),.sc (.slice none 0 0)]⟩ (na != nb) out hd hl
 simp only[whW] at hc ⊢
 generalize aJ (sgn (na != nb) (val out)).natAbs=r at *
 generalize bz (sgn (na != nb) (val out))=nn at *
 cases na <;> cases nb <;> simp only[bne_self_eq_false,Bool.bne_true,Bool.bne_false,Bool.not_false] at hc <;>
  simp[mulC,f105,aM,dK,bM,partOf,bm,bZ,bG,bg,hc,h78,h2,h3,h4,h5,uB,uW,sB,sW,aB,aW,wf0,wf1,aU,aL,cg,bp,ca,bF,aX]
theorem aaz (x y:Int):sgn (bz x != bz y) (x.natAbs*y.natAbs)=x*y:=by
 rw[sL,cL,cL,Int.natCast_mul]
 by_cases hx:x<0 <;> by_cases hy:y<0
 ·have e1:(x.natAbs:Int) = -x:=by omega
  have e2:(y.natAbs:Int) = -y:=by omega
  simp[hx,hy,e1,e2,Int.neg_mul,Int.mul_neg]
 ·have e1:(x.natAbs:Int) = -x:=by omega
  have e2:(y.natAbs:Int)=y:=by omega
  simp[hx,hy,e1,e2,Int.neg_mul]
 ·have e1:(x.natAbs:Int)=x:=by omega
  have e2:(y.natAbs:Int) = -y:=by omega
  simp[hx,hy,e1,e2,Int.mul_neg]
 ·have e1:(x.natAbs:Int)=x:=by omega
  have e2:(y.natAbs:Int)=y:=by omega
  simp[hx,hy,e1,e2]
theorem QP (n m:Nat):at0 (List.replicate n 0) m=0:=by
 by_cases h:m<n
 ·simp[at0,h]
 ·simp[at0,h]
def EY:Ψ→Option Ψ
 | [p,q]=>match fQ p,fQ q with
  | some x,some y=>some [br (x*y)]
  | _,_=>none
 | _=>none
theorem VD(x y:Int)(hx:Sm x)(hy:Sm y)(hk:(aJ x.natAbs).length<k)(hk2:(aJ y.natAbs).length<k) :
  ∃ st,ae (CC L1) run k mulC ⟨entry 78 [br x,br y],[],[]⟩=some (.ret,st)∧aX TT st.fr st.hp f105.results.toList=some [br (x*y)]:=by
 have hl:(aJ x.natAbs).length+(aJ y.natAbs).length<1000000:=by unfold Sm at hx hy;omega
 obtain⟨f1,wr1,p1,p2,p3,p4,p5,p6⟩:=acs L1 run k (bz x) (bz y) (aJ x.natAbs) (aJ y.natAbs) hl
 obtain⟨f2,q1,q2,q3,q4,q5,q6,q7,q8,q9⟩:=agt L1 run k f1 ⟨.live,[.sc (.bool (bz y)),aP (aJ y.natAbs)]⟩ ⟨.live,[.sc (.bool false),.sc (.slice none 0 0)]⟩ ⟨.live,(List.replicate ((aJ x.natAbs).length+(aJ y.natAbs).length) 0).map dg⟩ wr1 (bz x) (aJ x.natAbs) p2 p3
 obtain⟨f3,wr3,out,r1,r2,r3,r4,r5,r6,r7,r8,r9⟩:=AH L1 run k ⟨.live,[.sc (.bool (bz x)),aP (aJ x.natAbs)]⟩ ⟨.live,[.sc (.bool false),.sc (.slice none 0 0)]⟩ (bz y) (aJ x.natAbs) (aJ y.natAbs) (bU _) (bU _) hl hk2 (aJ x.natAbs).length 0 f2 wr1 (List.replicate ((aJ x.natAbs).length+(aJ y.natAbs).length) 0)
  (by omega) (Dok.KP _) (by simp) q2 (by rw[q7,p4]) (by rw[q9,p6,length_replicate]) q3 q4 q5 (fun m _=>QP _ _) (by rw[oO];simp[val])
 obtain⟨st,e1,e2⟩:=VC run k f3 wr3 (bz x) (bz y) (aJ x.natAbs) (aJ y.natAbs) out r7 (by omega) r2 (by rw[r3,q6,p3]) r4 (by rw[r5,q8,p5]) r6
 refine⟨st,?_,?_⟩
 ·rw[br,br,aY 2 p1,O1,ar ((ar q1).trans (bE (bK r1 (by omega))))]
  exact e1
 ·rw[e2,r9,bX,bX,aaz]
theorem rD:Ab.Spec base.P 105 EY:=Ab.Spec.bS (C:=CC L1) (cR MQ) fun args rs h=>by
 unfold EY at h
 split at h
 ·split at h
  ·rename_i x y ex ey
   obtain⟨rfl,hx⟩:=dY ex
   obtain⟨rfl,hy⟩:=dY ey
   simp only[OiE] at h
   subst h
   obtain⟨st,e1,e2⟩:=VD (runK (CC L1) 400001) 400001 x y hx hy (by unfold Sm at hx;omega) (by unfold Sm at hy;omega)
   exact⟨400002,_,_,_,_,_,ba ZB rfl e1 e2,jF _ _,Wk.refl rfl,trivial⟩
  ·cases h
 ·cases h
def mr:Code:=f181.body.getD .skip
def sH:Code:=((f181.body).bind aA).getD .skip
abbrev hp1 (out:Ω):Θ:=[⟨.live,out.map dg⟩]
theorem Nq(h42:fr.length=42)(h8:nth fr 8 = .sc (.int .i64 (-1))) :
  ∃ fr',ae (CC L) run k sH ⟨fr,hp,wr⟩=some (.exit 0,⟨fr',hp,wr⟩)∧fr'.length=42∧nth fr' 6=nth fr 6∧nth fr' 7=nth fr 7:=by
 simp[sH,f181,h42,h8]
set_option maxHeartbeats 2000000 in
theorem Dq(a out:Ω)(b m R q r:Nat)(ha:Dok a)(hb:0<b)(hb2:b<1000000000)(hR:R<b)(hm:m<a.length)(hl:out.length=a.length)(hl2:a.length<1000000)
  (h42:fr.length=42) (h0:nth fr 0=aP a) (h1:nth fr 1=dg b) (h6:nth fr 6 = .own 0 1 0 a.length true) (h7:nth fr 7 = .sc (.int .u64 (R:Int))) (h8:nth fr 8 = .sc (.int .i64 (m:Int)))
  (hq:q=(R*1000000000+at0 a m) / b) (hr:r=(R*1000000000+at0 a m) % b) :
  ∃ fr' wr',ae (CC L) run k sH ⟨fr,hp1 out,wr⟩=some (.normal,⟨fr',hp1 (out.set m q),wr'⟩)∧fr'.length=42∧nth fr' 0=aP a∧nth fr' 1=dg b∧nth fr' 6 = .own 0 1 0 a.length true∧nth fr' 7 = .sc (.int .u64 (r:Int))∧nth fr' 8 = .sc (.int .i64 ((m:Int) - 1)):=by
 have hda:=eM a m hm
 have hax:=ha.get hm
 have hov:=jw out m q (by omega)
 rw[dc hm] at hq hr
 generalize a[m]=x at *
 have e1:aP a = .imm a.length false (a.map dg):=rfl
 have hdx:dg x = .sc (.int .u32 (x:Int)):=rfl
 have hdb:dg b = .sc (.int .u32 (b:Int)):=rfl
 rw[e1] at h0 ⊢;rw[hdx] at hda;rw[hdb] at h1 ⊢
 obtain⟨s1,hs1⟩:∃ s1,s1=R*1000000000:=⟨_,rfl⟩
 obtain⟨s2,hs2⟩:∃ s2,s2=s1+x:=⟨_,rfl⟩
 rw[← hs1,← hs2] at hq hr
 have hq9:q<1000000000:=by
  rw[hq]
  refine Nat.div_lt_of_lt_mul ?_
  have:(R+1)*1000000000≤b*1000000000:=Nat.mul_le_mul_right _ hR
  rw[Nat.add_mul] at this
  omega
 have hw0:=cq .u64 x (dA (by omega))
 have hwb:=cq .u64 b (dA (by omega))
 have hw1:=mg .u64 R s1 hs1 (dA (by omega))
 have hw2:=dm .u64 s1 x s2 hs2 (dA (by omega))
 have hw3:=aeA .u64 s2 b q hq (dA (by omega))
 have hw4:=RV s2 b r hr
 have hw5:bA .u32 (q:Int)=(q:Int):=cq .u32 q (iX (by omega))
 have hwm:=cM m (by omega)
 have hb0 : ¬ (b=0):=by omega
 simp[sH,f181,bd,bn,partOf,and_assoc,bg,dq,gi,h42,h0,h1,h6,h7,h8,u32,u64,s32,a32,dD,hm,hda,aU,aL,cg,hw0,hwb,hw1,hw2,hw3,hw4,hw5,hwm,hov,hb0,gU q,number,FP.free]
theorem wD (L:Lst)(run:aw)(k:Nat)(a:Ω)(b:Nat)(ha:Dok a)(hb:0<b)(hb2:b<1000000000)(hl2:a.length<1000000):∀ (m:Nat) (fr:Ψ) (wr:Ω) (out:Ω) (R:Nat),m≤a.length→out.length=a.length →
  fr.length=42→nth fr 0=aP a→nth fr 1=dg b→nth fr 6 = .own 0 1 0 a.length true→nth fr 7 = .sc (.int .u64 (R:Int))→nth fr 8 = .sc (.int .i64 ((m:Int) - 1)) →
  R=val (a.drop m) % b→val (out.drop m)=val (a.drop m) / b→Dok out →
  ∃ (fr':Ψ) (wr':Ω) (out':Ω),cb (ae (CC L) run k sH) (m+1) ⟨fr,hp1 out,wr⟩=some (.exit 0,⟨fr',hp1 out',wr'⟩)∧fr'.length=42∧nth fr' 6 = .own 0 1 0 a.length true∧nth fr' 7 = .sc (.int .u64 ((val a % b:Nat):Int))∧out'.length=a.length∧Dok out'∧val out'=val a / b
 | 0,fr,wr,out,R,hm,hl,h42,h0,h1,h6,h7,h8,hR,hv,ho=>by
  obtain⟨fr',g1,g2,g3,g4⟩:=Nq L run k fr (hp1 out) wr h42 (by rw[h8];rfl)
  simp only[drop_zero] at hR hv
  exact⟨fr',wr,out,bu g1,g2,by rw[g3,h6],by rw[g4,h7,hR],hl,ho,hv⟩
 | m+1,fr,wr,out,R,hm,hl,h42,h0,h1,h6,h7,h8,hR,hv,ho=>by
  have h8':nth fr 8 = .sc (.int .i64 (m:Int)):=by rw[h8];simp
  have hRb:R<b:=by rw[hR];exact Nat.mod_lt _ hb
  obtain⟨fr1,wr1,g1,g2,g3,g4,g5,g6,g7⟩:=Dq L run k fr wr a out b m R _ _ ha hb hb2 hRb (by omega) hl hl2 h42 h0 h1 h6 h7 h8' rfl rfl
  have hax:=cn ha m
  obtain⟨d1,d2⟩:=FK (Q:=val (a.drop (m+1)) / b) (R:=val (a.drop (m+1)) % b) hb (iA a m (by omega)) rfl rfl
  rw[← hR] at d1 d2
  obtain⟨fr',wr',out',q1,q2⟩:=wD L run k a b ha hb hb2 hl2 m fr1 wr1 (out.set m ((R*1000000000+at0 a m) / b)) ((R*1000000000+at0 a m) % b) (by omega) (by rw[length_set];exact hl) g2 g3 g4 g5 g6 g7 d2
   (by rw[lE (by omega),val,hv];exact d1)
   (ho.set _ (by
    refine Nat.div_lt_of_lt_mul ?_
    have:(R+1)*1000000000≤b*1000000000:=Nat.mul_le_mul_right _ hRb
    rw[Nat.add_mul] at this
    omega))
  exact⟨fr',wr',out',by rw[bT g1];exact q1,q2⟩
def Hf:Code:=seq1 (seq1 (ai 2 mr))
theorem Dp:ai 2 mr = .seq (.seq Hf (.block 0 (.loop sH))) (ai 3 mr):=rfl
theorem Np (L:Lst)(run:aw)(k:Nat)(a:Ω)(p:PV)(hl:a.length<1000000) :
  ∃ fr wr,bh (CC L) run k 2 mr ⟨entry 42 [aP a,p],[],[]⟩=some ⟨fr,hp1 (List.replicate a.length 0),wr⟩∧fr.length=42∧nth fr 0=aP a∧nth fr 1=p∧nth fr 6 = .own 0 1 0 a.length true∧nth fr 7 = .sc (.int .u64 (0:Nat)):=by
 obtain⟨e1,e2,e3⟩:=cl 40 (aP a) p
 generalize entry 42 [aP a,p]=fr0 at *
 have h1:a.length≤cS:=Nat.le_trans (Nat.le_of_lt hl) (by decide)
 rw[show hp1 (List.replicate a.length 0)=[⟨.live,rep a.length [dg 0]⟩] by rw[sT]]
 simp[mr,f181,bh,e1,e2,e3,bL,bn,and_assoc,cm,s32,b32,z32,aO,ch,h1]
theorem aac(a:Ω)(hl:a.length<1000000)(h42:fr.length=42)(h0:nth fr 0=aP a) :
  ∃ fr',ae (CC L) run k Hf ⟨fr,hp,wr⟩=some (.normal,⟨fr',hp,wr⟩)∧fr'.length=42∧nth fr' 0=aP a∧nth fr' 1=nth fr 1∧nth fr' 6=nth fr 6∧nth fr' 7=nth fr 7∧nth fr' 8 = .sc (.int .i64 ((a.length:Int) - 1)):=by
 have hw:=cM a.length (by omega)
 simp[Hf,mr,f181,seq1,bL,cm,h42,h0,hw]
theorem He(p:PV)(r:Nat)(hr:r<1000000000)(h42:fr.length=42)(h6:nth fr 6=p)(h7:nth fr 7 = .sc (.int .u64 (r:Int))) :
  ∃ st,ae (CC L) run k (ai 3 mr) ⟨fr,hp,wr⟩=some (.ret,st)∧aX TT st.fr st.hp f181.results.toList=some [p,dg r]∧st.hp=hp:=by
 have hw5:bA .u32 (r:Int)=(r:Int):=cq .u32 r (iX (by omega))
 simp[mr,f181,and_assoc,u32,u64,dD,h42,h6,h7,hw5,aX,gU r]
def dg?:PV→Option Nat
 | .sc (.int .u32 (.ofNat n))=>bif n.blt 1000000000 then some n else none
 | _=>none
theorem XK {p:PV}{n:Nat}(h:dg? p=some n):p=dg n∧n<1000000000:=by
 unfold dg? at h
 split at h
 ·rename_i m
  cases hb:m.blt 1000000000 with
  | false=>rw[hb] at h;cases h
  | true =>
   rw[hb] at h
   simp at h;subst h
   exact⟨rfl,by simpa [Nat.blt_eq] using hb⟩
 ·cases h
theorem XL {n:Nat}(h:n<1000000000):dg? (dg n)=some n:=by
 have:n.blt 1000000000=true:=by rw[Nat.blt_eq];exact h
 show (bif n.blt 1000000000 then some n else none)=some n
 rw[this];rfl
def nO:Ψ→Option Ψ
 | [p,q]=>match ia p,dg? q with
  | some a,some (b+1)=>some [aP (cZ a.length (val a / (b+1))),dg (val a % (b+1))]
  | _,_=>none
 | _=>none
theorem wC:Ab.Spec base.P 181 nO:=Ab.Spec.bS (C:=CC []) (cR trivial) fun args rs h=>by
 unfold nO at h
 split at h
 ·split at h
  ·rename_i a b ea eb
   obtain⟨rfl,ha,hla⟩:=dx ea
   obtain⟨rfl,hb⟩:=XK eb
   simp only[OiE] at h
   subst h
   obtain⟨f1,wr1,p1,p2,p3,p4,p5,p6⟩:=Np [] (runK (CC []) (a.length+1)) (a.length+1) a (dg (b+1)) hla
   obtain⟨f2,q1,q2,q3,q4,q5,q6,q7⟩:=aac [] (runK (CC []) (a.length+1)) (a.length+1) f1 (hp1 (List.replicate a.length 0)) wr1 a hla p2 p3
   obtain⟨f3,wr3,out,r1,r2,r3,r4,r5,r6,r7⟩:=wD [] (runK (CC []) (a.length+1)) (a.length+1) a (b+1) ha (by omega) hb hla a.length f2 wr1 (List.replicate a.length 0) 0 (Nat.le_refl _) (by simp) q2 q3 (by rw[q4,p4]) (by rw[q5,p5]) (by rw[q6,p6]) q7 (by simp[val]) (by simp[val]) (Dok.KP _)
   obtain⟨st,e1,e2,e3⟩:=He [] (runK (CC []) (a.length+1)) (a.length+1) f3 (hp1 out) wr3 _ (val a % (b+1)) (Nat.lt_of_lt_of_le (Nat.mod_lt _ (by omega)) (by omega)) r2 r3 r4
   have hx:ae (CC []) (runK (CC []) (a.length+1)) (a.length+1) mr ⟨entry 42 [aP a,dg (b+1)],[],[]⟩=some (.ret,st):=by
    rw[aY 2 p1,Dp,ar ((ar q1).trans (bE r1))]
    exact e1
   have hout:out=cZ a.length (val a / (b+1)):=r6.qj r5 r7
   refine⟨a.length+2,_,_,_,[.imm a.length true (out.map dg),dg (val a % (b+1))],[0],ba J3 rfl hx e2,?_,?_⟩
   ·rw[e3,← r5]
    have hs:=kl (hp1 out) 10 out
    have:snap (hp1 out) 12 (.own 0 1 0 out.length true)=some (.imm out.length true (out.map dg),[0]):=by
     rw[snap]
     have h:aL (hp1 out) 0=some ⟨.live,out.map dg⟩:=rfl
     simp only[h]
     rw[if_neg (by simp),Da]
     simp only[hs]
    simp only[bq,bw,this]
    rfl
   ·refine⟨?_,Wk.refl rfl,trivial⟩
    rw[← hout]
    have:=Wk.imm a.length true (out.map dg)
    rw[← r5] at this ⊢
    exact this
  ·cases h
 ·cases h
def qF:Code:=f165.body.getD .skip
def zA:Code:=((f165.body).bind aA).getD .skip
theorem RD(h21:fr.length=21)(h4:nth fr 4 = .sc (.int .i64 (-1))) :
  ∃ fr',ae (CC L) run k zA ⟨fr,hp,wr⟩=some (.exit 0,⟨fr',hp,wr⟩)∧fr'.length=21∧nth fr' 3=nth fr 3:=by
 simp[zA,f165,h21,h4]
theorem GQ(a:Ω)(m N M:Nat)(ha:Dok a)(hm:m<a.length)(hl:a.length<1000000)(hM:M=N*1000000000+at0 a m)(hM2:M<9223372036854775808)
  (h21:fr.length=21) (h0:nth fr 0=aP a) (h3:nth fr 3 = .sc (.int .i64 (N:Int))) (h4:nth fr 4 = .sc (.int .i64 (m:Int))) :
  ∃ fr',ae (CC L) run k zA ⟨fr,hp,wr⟩=some (.normal,⟨fr',hp,wr⟩)∧fr'.length=21∧nth fr' 0=aP a∧nth fr' 3 = .sc (.int .i64 (M:Int))∧nth fr' 4 = .sc (.int .i64 ((m:Int) - 1)):=by
 have hda:=eM a m hm
 have hax:=ha.get hm
 rw[dc hm] at hM
 generalize a[m]=x at *
 have e1:aP a = .imm a.length false (a.map dg):=rfl
 have hdx:dg x = .sc (.int .u32 (x:Int)):=rfl
 rw[e1] at h0 ⊢;rw[hdx] at hda
 obtain⟨s1,hs1⟩:∃ s1,s1=N*1000000000:=⟨_,rfl⟩
 rw[← hs1] at hM
 have hw0:bA .i64 (x:Int)=(x:Int):=cq .i64 x (hiI (by omega))
 have hw1:=mg .i64 N s1 hs1 (hiI (by omega))
 have hw2:=dm .i64 s1 x M hM (hiI (by omega))
 have hwm:=cM m (by omega)
 simp[zA,f165,bd,bn,partOf,h21,h0,h3,h4,uI,u32,s32,a32,dD,hm,hda,aU,hw0,hw1,hw2,hwm]
theorem zy (L:Lst)(run:aw)(k:Nat)(a:Ω)(ha:Dok a)(hl:a.length≤2):∀ (m:Nat) (fr:Ψ) (hp:Θ) (wr:Ω),m≤a.length →
  fr.length=21→nth fr 0=aP a→nth fr 3 = .sc (.int .i64 ((val (a.drop m):Nat):Int))→nth fr 4 = .sc (.int .i64 ((m:Int) - 1)) →
  ∃ (fr':Ψ),cb (ae (CC L) run k zA) (m+1) ⟨fr,hp,wr⟩=some (.exit 0,⟨fr',hp,wr⟩)∧fr'.length=21∧nth fr' 3 = .sc (.int .i64 ((val a:Nat):Int))
 | 0,fr,hp,wr,hm,h21,h0,h3,h4=>by
  obtain⟨fr',g1,g2,g3⟩:=RD L run k fr hp wr h21 (by rw[h4];rfl)
  exact⟨fr',bu g1,g2,by rw[g3,h3,drop_zero]⟩
 | m+1,fr,hp,wr,hm,h21,h0,h3,h4=>by
  have h4':nth fr 4 = .sc (.int .i64 (m:Int)):=by rw[h4];simp
  have hb:val (a.drop m)<9223372036854775808:=by
   have h1:=eW (ha.drop m)
   have h2:(a.drop m).length≤2:=by rw[length_drop];omega
   have h3:=Nat.pow_le_pow_right (n:=1000000000) (by omega) h2
   have h4:1000000000 ^ 2<9223372036854775808:=by decide
   omega
  obtain⟨fr1,g1,g2,g3,g4,g5⟩:=GQ L run k fr hp wr a m (val (a.drop (m+1))) (val (a.drop m)) ha (by omega) (by omega) (by rw[iA a m (by omega)];omega) hb h21 h0 h3 h4'
  obtain⟨fr',q1,q2⟩:=zy L run k a ha hl m fr1 hp wr (by omega) g2 g3 g4 g5
  exact⟨fr',by rw[bT g1];exact q1,q2⟩
def RE:Code:=seq1 (seq1 (ai 2 qF))
theorem GP:ai 2 qF = .seq (.seq RE (.block 0 (.loop zA))) (ai 3 qF):=rfl
theorem RC (L:Lst)(run:aw)(k:Nat)(p:PV) :
  ∃ fr,bh (CC L) run k 2 qF ⟨entry 21 [p],[],[]⟩=some ⟨fr,[],[]⟩∧fr.length=21∧nth fr 0=p∧nth fr 3 = .sc (.int .i64 (0:Nat)):=by
 obtain⟨e1,e2⟩:=cO 20 p
 generalize entry 21 [p]=fr0 at *
 simp[qF,f165,bh,e1,e2]
theorem afi(a:Ω)(hl:a.length<1000000)(h21:fr.length=21)(h0:nth fr 0=aP a) :
  ∃ fr',ae (CC L) run k RE ⟨fr,[],[]⟩=some (.normal,⟨fr',[],[]⟩)∧fr'.length=21∧nth fr' 0=aP a∧nth fr' 3=nth fr 3∧nth fr' 4 = .sc (.int .i64 ((a.length:Int) - 1)):=by
 have hw:=cM a.length (by omega)
 simp[RE,qF,f165,seq1,bL,cm,h21,h0,hw]
theorem MY(p:PV)(h21:fr.length=21)(h3:nth fr 3=p) :
  ∃ st,ae (CC L) run k (ai 3 qF) ⟨fr,[],[]⟩=some (.ret,st)∧aX TT st.fr st.hp f165.results.toList=some [p]:=by
 simp[qF,f165,h21,h3,aX]
def CZ:Ψ→Option Ψ
 | [p]=>match ia p with
  | some a=>bif a.length.ble 2 then some [Ab.bN (Int.ofNat (val a))] else none
  | _=>none
 | _=>none
theorem MX:Ab.Spec base.P 165 CZ:=Ab.Spec.bS (C:=CC []) (cR trivial) fun args rs h=>by
 unfold CZ at h
 split at h
 ·split at h
  ·rename_i a ea
   obtain⟨rfl,ha,hla⟩:=dx ea
   cases hb:a.length.ble 2 with
   | false=>rw[hb] at h;cases h
   | true =>
    rw[hb] at h
    simp only[cond_true,OiE] at h
    subst h
    rw[Nat.ble_eq] at hb
    obtain⟨f1,p1,p2,p3,p4⟩:=RC [] (runK (CC []) 3) 3 (aP a)
    obtain⟨f2,q1,q2,q3,q4,q5⟩:=afi [] (runK (CC []) 3) 3 f1 a hla p2 p3
    obtain⟨f3,r1,r2,r3⟩:=zy [] (runK (CC []) 3) 3 a ha hb a.length f2 [] [] (Nat.le_refl _) q2 q3 (by rw[q4,p4];simp[val]) q5
    obtain⟨st,e1,e2⟩:=MY [] (runK (CC []) 3) 3 f3 _ r2 r3
    have hx:ae (CC []) (runK (CC []) 3) 3 qF ⟨entry 21 [aP a],[],[]⟩=some (.ret,st):=by
     rw[aY 2 p1,GP,ar ((ar q1).trans (bE (bK r1 (by omega))))]
     exact e1
    exact⟨4,_,_,_,_,_,ba QU rfl hx e2,eD _ (val a),Wk.refl rfl,trivial⟩
  ·cases h
 ·cases h
def pU:Code:=f164.body.getD .skip
def sG:Code:=((f164.body).bind aA).getD .skip
theorem Nc(h12:fr.length=12)(h1:nth fr 1 = .sc (.int .i64 (0:Nat))) :
  ∃ fr',ae (CC L) run k sG ⟨fr,[],[]⟩=some (.exit 0,⟨fr',[],[]⟩)∧fr'.length=12∧nth fr' 0=nth fr 0:=by
 simp[sG,f164,h12,h1]
theorem Dj(x y r:Nat)(hy:0<y)(hr:r=x % y)(h12:fr.length=12)(h0:nth fr 0 = .sc (.int .i64 (x:Int)))(h1:nth fr 1 = .sc (.int .i64 (y:Int))) :
  ∃ fr',ae (CC L) run k sG ⟨fr,[],[]⟩=some (.normal,⟨fr',[],[]⟩)∧fr'.length=12∧nth fr' 0 = .sc (.int .i64 (y:Int))∧nth fr' 1 = .sc (.int .i64 (r:Int)):=by
 have hw:=RV x y r hr
 have hy0 : ¬ (y=0):=by omega
 simp[sG,f164,h12,h0,h1,hy,hy0,hw,number,FP.free]
theorem wz (L:Lst)(run:aw)(k:Nat):∀ (n y x:Nat) (fr:Ψ),y<n→fr.length=12→nth fr 0 = .sc (.int .i64 (x:Int))→nth fr 1 = .sc (.int .i64 (y:Int)) →
  ∃ fr',cb (ae (CC L) run k sG) n ⟨fr,[],[]⟩=some (.exit 0,⟨fr',[],[]⟩)∧fr'.length=12∧nth fr' 0 = .sc (.int .i64 ((Nat.gcd x y:Nat):Int))
 | 0,y,x,fr,hn,h12,h0,h1=>by omega
 | n+1,y,x,fr,hn,h12,h0,h1=>by
  by_cases hy:y=0
  ·subst hy
   obtain⟨fr',g1,g2,g3⟩:=Nc L run k fr h12 h1
   exact⟨fr',bu g1,g2,by rw[g3,h0,Nat.gcd_zero_right]⟩
  ·obtain⟨fr1,g1,g2,g3,g4⟩:=Dj L run k fr x y _ (by omega) rfl h12 h0 h1
   obtain⟨fr',q1,q2,q3⟩:=wz L run k n (x % y) y fr1 (by have:=Nat.mod_lt x (show 0<y by omega);omega) g2 g3 g4
   refine⟨fr',by rw[bT g1];exact q1,q2,?_⟩
   rw[q3,Nat.gcd_comm y (x % y),← Nat.gcd_rec,Nat.gcd_comm]
theorem Di:ai 1 pU = .seq (.block 0 (.loop sG)) (ai 2 pU):=rfl
theorem Na (L:Lst)(run:aw)(k:Nat)(p q:PV) :
  ∃ fr,bh (CC L) run k 1 pU ⟨entry 12 [p,q],[],[]⟩=some ⟨fr,[],[]⟩∧fr.length=12∧nth fr 0=p∧nth fr 1=q:=by
 obtain⟨e1,e2,e3⟩:=cl 10 p q
 generalize entry 12 [p,q]=fr0 at *
 simp[pU,f164,bh,e1,e2,e3]
theorem G6(p:PV)(h12:fr.length=12)(h0:nth fr 0=p) :
  ∃ st,ae (CC L) run k (ai 2 pU) ⟨fr,[],[]⟩=some (.ret,st)∧aX TT st.fr st.hp f164.results.toList=some [p]:=by
 simp[pU,f164,h12,h0,aX]
def BH:Ψ→Option Ψ
 | [.sc (.int .i64 (.ofNat x)),.sc (.int .i64 (.ofNat y))]=>some [Ab.bN (Int.ofNat (Nat.gcd x y))]
 | _=>none
theorem G5:Ab.Spec base.P 164 BH:=Ab.Spec.bS (C:=CC []) (cR trivial) fun args rs h=>by
 unfold BH at h
 split at h
 ·rename_i x y
  simp only[OiE] at h
  subst h
  obtain⟨f1,p1,p2,p3,p4⟩:=Na [] (runK (CC []) (y+1)) (y+1) (.sc (.int .i64 (x:Int))) (.sc (.int .i64 (y:Int)))
  obtain⟨f2,q1,q2,q3⟩:=wz [] (runK (CC []) (y+1)) (y+1) (y+1) y x f1 (by omega) p2 p3 p4
  obtain⟨st,e1,e2⟩:=G6 [] (runK (CC []) (y+1)) (y+1) f2 _ q2 q3
  have hx:ae (CC []) (runK (CC []) (y+1)) (y+1) pU ⟨entry 12 [.sc (.int .i64 (x:Int)),.sc (.int .i64 (y:Int))],[],[]⟩=some (.ret,st):=by
   rw[aY 1 p1,Di,ar (bE q1)]
   exact e1
  exact⟨y+2,_,_,_,_,_,ba J2 rfl hx e2,eD _ (Nat.gcd x y),Wk.refl rfl,trivial⟩
 ·cases h
def gw:Code:=f190.body.getD .skip
def oV:Code:=((f190.body).bind aA).getD .skip
theorem Gt:base.F.get 190=some f190:=by kernel_rfl
theorem Nr:base.shared 190=false:=by kernel_rfl
theorem Hq(n:Nat)(h40:fr.length=40)
  (h14:nth fr 14 = .sc (.int .i64 (n:Int))) (h15:nth fr 15 = .sc (.int .i64 (n:Int))) :
  ∃ fr',ae (CC L) run k oV ⟨fr,hp,wr⟩=some (.exit 0,⟨fr',hp,wr⟩)∧fr'.length=40∧nth fr' 5=nth fr 5∧nth fr' 6=nth fr 6:=by
 simp[oV,f190,h40,h14,h15]
set_option maxHeartbeats 2000000 in
theorem BM(a out:Ω)(i c b s:Nat)(ha:Dok a)(hb:b<1000000000)(hc:c<1000000000)(hi:i<a.length)(hl:a.length<1000000)
  (h40:fr.length=40) (h13:nth fr 13=aP a) (h14:nth fr 14 = .sc (.int .i64 (a.length:Int))) (h15:nth fr 15 = .sc (.int .i64 (i:Int))) (h1:nth fr 1=dg b)
  (h6:nth fr 6 = .sc (.int .u64 (c:Int))) (hO:dM 0 hp out (nth fr 5)) (ho:out.length=i) (hs:s=c+at0 a i*b) :
  ∃ fr' hp' wr',ae (CC L) run k oV ⟨fr,hp,wr⟩=some (.normal,⟨fr',hp',wr'⟩)∧fr'.length=40∧nth fr' 13=aP a∧nth fr' 14 = .sc (.int .i64 (a.length:Int))
   ∧ nth fr' 15 = .sc (.int .i64 ((i+1:Nat):Int))∧nth fr' 1=dg b∧nth fr' 6 = .sc (.int .u64 ((s / 1000000000:Nat):Int))∧dM 0 hp' (out++[s % 1000000000]) (nth fr' 5):=by
 have hda:=cY a i hi
 have hax:=cn ha i
 generalize at0 a i=x at *
 have e1:aP a = .imm a.length false (a.map dg):=rfl
 have hdb:dg b = .sc (.int .u32 (b:Int)):=rfl
 rw[e1] at h13 ⊢;rw[hdb] at h1 ⊢
 have hxy:x*b≤999999999*999999999:=Nat.mul_le_mul (by omega) (by omega)
 obtain⟨s1,hs1⟩:∃ s1,s1=x*b:=⟨_,rfl⟩
 rw[← hs1] at hs hxy
 have hw0:=cq .u64 x (dA (by omega))
 have hw1:=cq .u64 b (dA (by omega))
 have hw2:=wrapM .u64 x b s1 hs1 (dA (by omega))
 have hw3:=dm .u64 c s1 s hs (dA (by omega))
 have hwi:=bD i (by omega)
 obtain⟨q,hq⟩:∃ q,q=s / 1000000000:=⟨_,rfl⟩
 obtain⟨r,hr⟩:∃ r,r=s % 1000000000:=⟨_,rfl⟩
 have hw4:bA .u64 ((s:Int) / 1000000000)=(q:Int):=jO .u64 s q hq (dA (by omega))
 have hw5:=lQ s r hr
 have hw6:bA .u32 (r:Int)=(r:Int):=cq .u32 r (iX (by omega))
 obtain⟨p',hp',fp,h7,h8,h9⟩:=hO.app r (ho ▸ Nat.lt_trans hi (Nat.lt_trans hl (by decide)))
 rw[← hq,← hr]
 simp[oV,f190,bd,bn,partOf,and_assoc,bg,dq,h40,h13,h14,h15,h1,h6,u32,u64,s32,b32,z32,a32,dD,hi,hda,aU,hw0,hw1,hw2,hw3,hw4,hw5,hw6,hwi,gU r,oq,nU,jU,ch,h7,h8]
theorem DD {vo va c x b P s q r:Nat}(h:vo+c*P=va*b)(hs:s=c+x*b)(hq:q=s / 1000000000)(hr:r=s % 1000000000) :
  vo+P*r+q*(P*1000000000)=(va+x*P)*b:=by
 have e:s=r+1000000000*q:=by omega
 have e2:s*P=(r+1000000000*q)*P:=by rw[e]
 subst hs
 simp only[Nat.add_mul] at e2 ⊢
 have e3:1000000000*q*P=q*(P*1000000000):=by grind
 have e4:r*P=P*r:=Nat.mul_comm _ _
 have e5:x*b*P=x*P*b:=by grind
 omega
theorem tT (L:Lst)(run:aw)(k:Nat)(a:Ω)(b:Nat)(ha:Dok a)(hb:b<1000000000)(hl:a.length<1000000):∀ (n i:Nat) (fr:Ψ) (hp:Θ) (wr:Ω) (out:Ω) (c:Nat),i+n=a.length →
  fr.length=40→nth fr 13=aP a→nth fr 14 = .sc (.int .i64 (a.length:Int))→nth fr 15 = .sc (.int .i64 (i:Int))→nth fr 1=dg b→nth fr 6 = .sc (.int .u64 (c:Int))→dM 0 hp out (nth fr 5)→out.length=i →
  Dok out→c<1000000000→val out+c*1000000000 ^ i=val (a.take i)*b →
  ∃ (fr':Ψ) (hp':Θ) (wr':Ω) (out':Ω) (c':Nat),cb (ae (CC L) run k oV) (n+1) ⟨fr,hp,wr⟩=some (.exit 0,⟨fr',hp',wr'⟩)∧fr'.length=40∧nth fr' 6 = .sc (.int .u64 (c':Int))∧dM 0 hp' out' (nth fr' 5)∧out'.length=a.length
   ∧ Dok out'∧c'<1000000000∧val out'+c'*1000000000 ^ a.length=val a*b
 | 0,i,fr,hp,wr,out,c,hi,h40,h13,h14,h15,h1,h6,hO,ho,hd,hc,hv=>by
  have:i=a.length:=by omega
  subst this
  obtain⟨fr',g1,g2,g3,g4⟩:=Hq L run k fr hp wr a.length h40 h14 h15
  exact⟨fr',hp,wr,out,c,bu g1,g2,by rw[g4,h6],by rw[g3];exact hO,ho,hd,hc,by rw[hv,take_length]⟩
 | n+1,i,fr,hp,wr,out,c,hi,h40,h13,h14,h15,h1,h6,hO,ho,hd,hc,hv=>by
  obtain⟨fr1,hp1,wr1,g1,g2,g3,g4,g5,g6,g7,g8⟩:=BM L run k fr hp wr a out i c b _ ha hb hc (by omega) hl h40 h13 h14 h15 h1 h6 hO ho rfl
  obtain⟨fr',hp',wr',out',c',q1,q2⟩:=tT L run k a b ha hb hl n (i+1) fr1 hp1 wr1 _ _ (by omega) g2 g3 g4 g5 g6 g7 g8 (by simp[ho]) (hd.append (Dok.nil.cons (Nat.mod_lt _ (by omega))))
   (by
    have:=cn ha i
    have:at0 a i*b≤999999999*999999999:=Nat.mul_le_mul (by omega) (by omega)
    omega)
   (by
    rw[cu,dF,ho,Nat.pow_succ]
    exact DD hv rfl rfl rfl)
  exact⟨fr',hp',wr',out',c',by rw[bT g1];exact q1,q2⟩
def BN:Code:=seq1 (seq1 (ai 2 gw))
theorem BL:ai 2 gw = .seq (.seq BN (.block 0 (.loop oV))) (ai 3 gw):=rfl
theorem DF (L:Lst)(run:aw)(k:Nat)(p q:PV) :
  ∃ fr wr,bh (CC L) run k 1 gw ⟨entry 40 [p,q],[],[]⟩=some ⟨fr,[],wr⟩∧fr.length=40∧nth fr 0=p∧nth fr 1=q:=by
 obtain⟨e1,e2,e3⟩:=cl 38 p q
 generalize entry 40 [p,q]=fr0 at *
 simp[gw,f190,bh,e1,e2,e3,and_assoc]
theorem DE (L:Lst)(run:aw)(k:Nat)(a:Ω)(fr0:Ψ)(wr0:Ω)(hl:a.length<1000000)(e1:fr0.length=40)(e2:nth fr0 0=aP a) :
  ∃ fr hp wr,bh (CC L) run k 1 (ai 1 gw) ⟨fr0,[],wr0⟩=some ⟨fr,hp,wr⟩∧fr.length=40∧nth fr 0=aP a∧nth fr 1=nth fr0 1∧nth fr 6 = .sc (.int .u64 (0:Nat))∧dM 0 hp [] (nth fr 5):=by
 have hO:∀ n,dM 0 [⟨.live,rep n [dg 0]⟩] [] (.own 0 1 0 0 false):=fun n=>⟨Nat.zero_le _,.inr ⟨0,List.replicate n 0,Nat.le_refl _,by simp,rfl,by rw[sT];rfl⟩⟩
 have hw:=bD a.length (by omega)
 have h1:a.length+1≤cS:=Nat.le_trans (show a.length+1≤1000000 by assumption) (by decide)
 simp[gw,f190,bh,e1,e2,bL,j9,jr,and_assoc,cm,hw,s32,b32,z32,ch,h1,aO,hO]
theorem SY(a:Ω)(h40:fr.length=40)(h0:nth fr 0=aP a) :
  ∃ fr',ae (CC L) run k BN ⟨fr,hp,wr⟩=some (.normal,⟨fr',hp,wr⟩)∧fr'.length=40∧nth fr' 13=aP a∧nth fr' 14 = .sc (.int .i64 (a.length:Int))∧nth fr' 15 = .sc (.int .i64 (0:Nat))
   ∧ nth fr' 1=nth fr 1∧nth fr' 6=nth fr 6∧nth fr' 5=nth fr 5:=by
 simp[BN,gw,seq1,f190,bL,cm,h40,h0]
theorem DG(out:Ω)(c:Nat)(hc:c<1000000000)(hl:out.length<1000000)(h40:fr.length=40)(h6:nth fr 6 = .sc (.int .u64 (c:Int)))(hO:dM 0 hp out (nth fr 5)) :
  ∃ st id,ae (CC L) run k (ai 3 gw) ⟨fr,hp,wr⟩=some (.ret,st)∧aX TT st.fr st.hp f190.results.toList=some [.own id 1 0 (out.length+1) false]∧aL st.hp id=some ⟨.live,(out++[c]).map dg⟩:=by
 obtain⟨id,hp',fp,h7,h8⟩:=hO.alA c (by omega)
 have hw6:bA .u32 (c:Int)=(c:Int):=cq .u32 c (iX (by omega))
 refine (fun ⟨st,h⟩=>⟨st,id,h⟩:(∃ st,_)→_) ?_
 have h8':aL hp' id=some ⟨.live,out.map dg++[dg c]⟩:=by simpa using h8
 simp[gw,f190,bg,dq,u32,u64,dD,h40,h6,hw6,s32,b32,z32,gU c,oq,nU,jU,ch,h7,h8',aX]
theorem Hp (L:Lst)(hs:∀ g,(CC L).sorc g=none)(a:Ω)(b k:Nat)(ha:Dok a)(hb:b<1000000000)(hl:a.length<1000000)(hk:a.length<k) :
  ∃ hp wr id,runK (CC L) (k+1) 190 [aP a,dg b] []=some ([.own id 1 0 (a.length+1) false],hp,wr)∧aL hp id=some ⟨.live,(cZ (a.length+1) (val a*b)).map dg⟩:=by
 obtain⟨fr9,wr9,h1,h91,h92,h93⟩:=DF L (runK (CC L) k) k (aP a) (dg b)
 obtain⟨fr0,hp0,wr0,h1',h2,h3,h4,h5,h6⟩:=DE L (runK (CC L) k) k a fr9 wr9 hl h91 h92
 obtain⟨fr1,g1,g2,g3,g4,g5,g6,g7,g8⟩:=SY L (runK (CC L) k) k fr0 hp0 wr0 a h2 h3
 obtain⟨fr2,hp2,wr2,out,c,q1,q2,q3,q4,q5,q6,q7,q8⟩:=tT L (runK (CC L) k) k a b ha hb hl a.length 0 fr1 hp0 wr0 [] 0 (by simp) g2 g3 g4 g5 (by rw[g6,h4,h93]) (by rw[g7,h5]) (by rw[g8];exact h6) rfl Dok.nil (by omega) (by simp[val])
 obtain⟨st,id,e1,e2,e3⟩:=DG L (runK (CC L) k) k fr2 hp2 wr2 out c q7 (by omega) q2 q3 q4
 have hx:ae (CC L) (runK (CC L) k) k gw ⟨entry 40 [aP a,dg b],[],[]⟩=some (.ret,st):=by
  rw[aY 1 h1,aY 1 h1',show ai 1 (ai 1 gw)=ai 2 gw from rfl,BL,ar ((ar g1).trans (bE (bK q1 (by omega))))]
  exact e1
 have hout:out++[c]=cZ (a.length+1) (val a*b):=by
  refine (q6.append (Dok.nil.cons (by omega))).qj (by simp[q5]) ?_
  rw[dF,q5,Nat.mul_comm,q8]
 rw[hout] at e3
 rw[q5] at e2
 exact⟨st.hp,st.wr,id,ba Gt rfl hx e2 (hs _),e3⟩
end Go.Proofs.YtjdmodeenbdfpaaGreat
end
