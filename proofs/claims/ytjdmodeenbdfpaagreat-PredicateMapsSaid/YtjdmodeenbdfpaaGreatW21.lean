/- Contracts of numbers kept as digits in text, part 21; each lemma states its conditions. -/
import Derived.Test.YtjdmodeenbdfpaaGreatW20
set_option linter.unusedSimpArgs false
set_option linter.unusedVariables false
noncomputable section
namespace Go.Proofs.YtjdmodeenbdfpaaGreat
open Go Go.Ab List Tryz
attribute [local simp] FzZ aA aC aF aG aH aZ aa ab ae af ag ah ai aj an ao aq au av bL bf bg
variable(L:Lst)(run:aw)(k:Nat)(fr:Ψ)(hp:Ω)(wr:Θ)
def fx:Code:=f68.body.getD .skip
def jz:Code:=((f68.body).bind aA).getD .skip
def tV:Code:=(aA jz).getD .skip
def tW:Code:=(aA (ag 8 fx)).getD .skip
abbrev hpT (out:Ω):Θ:=[⟨.live,out.map iv⟩]
def TF (fr:Ψ)(p q:Bool)(x y:Ω)(n:Nat):Prop :=
 fr.length=120∧nth fr 9 = .sc (.bool p)∧nth fr 10=bx x∧nth fr 11 = .sc (.bool q)∧nth fr 12=bx y∧nth fr 13 = .own 0 1 0 n true
def iP:Code→Array Oper
 | .region _ ops _=>ops
 | _=>#[]
def SV:Code:=match bn tV with | .seq (.block _ c) _=>c | c=>c
theorem Zz:((Region.before (iP SV))[21]?.getD 0).testBit 9=true:=by kernel_rfl
theorem Ns (L:Lst)(run:aw)(k:Nat)(fr:Ψ)(hp:Θ)(wr:Ω)(p q:Bool)(x y:Ω)(n i:Nat)(h:TF fr p q x y n)(h14:nth fr 14=iv i)(h15:nth fr 15=iv y.length) :
  ∃ fr',af (CC L) run k tV ⟨fr,hp,wr⟩=some (.exit 2,⟨fr',hp,wr⟩)∧TF fr' p q x y n∧nth fr' 14=iv i:=by
 obtain⟨h0,h9,h10,h11,h12,h13⟩:=h
 simp only[iv] at h14 h15 ⊢
 simp[TF,tV,jz,f68,and_assoc,dV,h0,h9,h10,h11,h12,h13,h14,h15,uL]
set_option maxHeartbeats 4000000 in
theorem Ef (L:Lst)(run:aw)(kk:Nat)(fr:Ψ)(wr:Ω)(p q:Bool)(x y out:Ω)(n i k j s:Nat)(hx:T.Dok x)(hy:T.Dok y)(hi:i<x.length)(hk:k<y.length)(hj:j=i+k)(hjn:j<out.length)(hn:out.length=n)(hn9:n<30000000)
  (hb:at0 out j≤10000000000) (hs:s=at0 out j+at0 x i*at0 y k) (h:TF fr p q x y n) (h14:nth fr 14=iv i) (h15:nth fr 15=iv k) :
  ∃ fr' wr',af (CC L) run kk tV ⟨fr,hpT out,wr⟩=some (.normal,⟨fr',hpT (out.set j s),wr'⟩)∧TF fr' p q x y n∧nth fr' 14=iv i∧nth fr' 15=iv (k+1):=by
 obtain⟨h0,h9,h10,h11,h12,h13⟩:=h
 subst hn
 have hd1:=fE x i hi
 have hd2:=fE y k hk
 have hd3:=fE out j hjn
 have hov:=mu (e:=iv) out j s hjn
 have a1:=T.cu hx i
 have a2:=T.cu hy k
 have hm:at0 x i*at0 y k≤9*9:=Nat.mul_le_mul (by omega) (by omega)
 generalize at0 x i=a at *
 generalize at0 y k=b at *
 generalize at0 out j=o at *
 obtain⟨t,ht⟩:∃ t,t=a*b:=⟨_,rfl⟩
 rw[← ht] at hs hm
 have hwj:=dA .i64 i k j hj (hiI (by omega))
 have hw1:=wrapM .i64 a b t ht (hiI (by omega))
 have hw2:=dA .i64 o t s hs (hiI (by omega))
 have hwk:=bA k (by omega)
 have hb1:=Zz
 simp[-Nat.testBit_zero,SV,tV,jz,f68,bn,iP] at hb1
 have e1:bx x = .imm x.length false (x.map iv):=rfl
 have e2:bx y = .imm y.length false (y.map iv):=rfl
 rw[e1] at h10;rw[e2] at h12
 simp only[iv] at h14 h15 ⊢
 simp[-Nat.testBit_zero,hb1,TF,e1,e2,tV,jz,f68,aU,bh,partOf,and_assoc,cR,bd,rQ,dW,h0,h9,h10,h11,h12,h13,h14,h15,uL,sI,aI,aX,aP,bZ,hi,hk,hjn,hd1,hd2,hd3,hov,hwj,hw1,hw2,hwk,qI s,number,FP.free,cD,FP.apart]
theorem wL (L:Lst)(run:aw)(kk:Nat)(p q:Bool)(x y:Ω)(n i V0:Nat)(hx:T.Dok x)(hy:T.Dok y)(hi:i<x.length)(hn:n=x.length+y.length+1)(hn9:n<20000000) :
  ∀ (d k:Nat) (fr:Ψ) (wr out:Ω),k+d=y.length→out.length=n→TF fr p q x y n→nth fr 14=iv i→nth fr 15=iv k→(∀ m,at0 out m≤81*(i+1))→(∀ m,i+k≤m→at0 out m≤81*i)→T.val out=V0+at0 x i*T.val (y.take k)*10 ^ i →
  ∃ (fr':Ψ) (wr' out':Ω),ch (af (CC L) run kk tV) (d+1) ⟨fr,hpT out,wr⟩=some (.exit 2,⟨fr',hpT out',wr'⟩)∧TF fr' p q x y n∧nth fr' 14=iv i∧out'.length=n∧(∀ m,at0 out' m≤81*(i+1))∧T.val out'=V0+at0 x i*T.val y*10 ^ i
 | 0,k,fr,wr,out,hk,ho,h,h14,h15,hB1,hB2,hv=>by
  have:k=y.length:=by omega
  subst this
  obtain⟨fr',g1,g2,g3⟩:=Ns L run kk fr (hpT out) wr p q x y n i h h14 h15
  exact⟨fr',wr,out,bE g1,g2,g3,ho,hB1,by rw[hv,take_length]⟩
 | d+1,k,fr,wr,out,hk,ho,h,h14,h15,hB1,hB2,hv=>by
  have a1:=T.cu hx i
  have a2:=T.cu hy k
  have hm:at0 x i*at0 y k≤9*9:=Nat.mul_le_mul (by omega) (by omega)
  have hjn:i+k<out.length:=by omega
  have hbo:=hB2 (i+k) (Nat.le_refl _)
  obtain⟨fr1,wr1,g1,g2,g3,g4⟩:=Ef L run kk fr wr p q x y out n i k (i+k) _ hx hy hi (by omega) rfl hjn ho (by omega) (by omega) rfl h h14 h15
  have hset:∀ m,at0 (out.set (i+k) (at0 out (i+k)+at0 x i*at0 y k)) m=if m=i+k then at0 out (i+k)+at0 x i*at0 y k else at0 out m:=by
   intro m
   by_cases e:m=i+k
   ·subst e;rw[if_pos rfl,df (by simpa using hjn)];simp
   ·rw[if_neg e,gk (fun h=>e h.symm)]
  obtain⟨fr',wr',out',q1,q2⟩:=wL L run kk p q x y n i V0 hx hy hi hn hn9 d (k+1) fr1 wr1 (out.set (i+k) (at0 out (i+k)+at0 x i*at0 y k)) (by omega) (by rw[length_set];exact ho) g2 g3 g4
   (fun m=>by
    rw[hset]
    split
    ·omega
    ·exact hB1 m)
   (fun m hm=>by
    rw[hset,if_neg (by omega)]
    exact hB2 m (by omega))
   (by
    have h1:=T.qn out (i+k) (at0 out (i+k)+at0 x i*at0 y k) hjn
    rw[← df hjn] at h1
    rw[T.cB]
    have e1:(10:Nat) ^ (i+k)=10 ^ k*10 ^ i:=by rw[Nat.pow_add,Nat.mul_comm]
    rw[e1] at h1
    have e2:at0 x i*(T.val (y.take k)+at0 y k*10 ^ k)*10 ^ i=at0 x i*T.val (y.take k)*10 ^ i+at0 x i*at0 y k*(10 ^ k*10 ^ i):=by
     rw[Nat.mul_add,Nat.add_mul,← Nat.mul_assoc,Nat.mul_assoc (at0 x i*at0 y k)]
    rw[e2]
    rw[Nat.add_mul (at0 out (i+k))] at h1
    omega)
  exact⟨fr',wr',out',by rw[ca g1];exact q1,q2⟩
def Eh:Code:=match bn jz with | .seq (.block _ c) _=>c | c=>c
def BT:Code:=seq1 Eh
theorem SS:jz = .seq (seq1 jz) (.seq (.block 1 Eh) (ag 2 jz)):=rfl
theorem SW:Eh = .seq BT (.block 2 (.loop tV)):=rfl
theorem Nr (L:Lst)(run:aw)(k:Nat)(fr:Ψ)(hp:Θ)(wr:Ω)(p q:Bool)(x y:Ω)(n:Nat)(h:TF fr p q x y n)(h14:nth fr 14=iv x.length) :
  ∃ fr',af (CC L) run k jz ⟨fr,hp,wr⟩=some (.exit 0,⟨fr',hp,wr⟩)∧TF fr' p q x y n:=by
 obtain⟨h0,h9,h10,h11,h12,h13⟩:=h
 simp only[iv] at h14
 simp[TF,jz,f68,dV,h0,h9,h10,h11,h12,h13,h14,uL]
theorem SU (L:Lst)(run:aw)(k:Nat)(fr:Ψ)(hp:Θ)(wr:Ω)(p q:Bool)(x y:Ω)(n i:Nat)(hi:i<x.length)(h:TF fr p q x y n)(h14:nth fr 14=iv i) :
  ∃ fr' fr'',af (CC L) run k (seq1 jz) ⟨fr,hp,wr⟩=some (.normal,⟨fr',hp,wr⟩)∧af (CC L) run k BT ⟨fr',hp,wr⟩=some (.normal,⟨fr'',hp,wr⟩)∧TF fr'' p q x y n∧nth fr'' 14=iv i∧nth fr'' 15=iv 0:=by
 obtain⟨h0,h9,h10,h11,h12,h13⟩:=h
 simp only[iv] at h14 ⊢
 simp[TF,BT,Eh,jz,f68,seq1,bn,and_assoc,dV,h0,h9,h10,h11,h12,h13,h14,uL,hi]
theorem SR (L:Lst)(run:aw)(k:Nat)(fr:Ψ)(hp:Θ)(wr:Ω)(p q:Bool)(x y:Ω)(n i:Nat)(hi:i<20000000)(h:TF fr p q x y n)(h14:nth fr 14=iv i) :
  ∃ fr',af (CC L) run k (ag 2 jz) ⟨fr,hp,wr⟩=some (.normal,⟨fr',hp,wr⟩)∧TF fr' p q x y n∧nth fr' 14=iv (i+1):=by
 obtain⟨h0,h9,h10,h11,h12,h13⟩:=h
 have hw:=bA i (by omega)
 simp only[iv] at h14 ⊢
 simp[TF,jz,f68,and_assoc,h0,h9,h10,h11,h12,h13,h14,hw]
theorem wK (L:Lst)(run:aw)(kk:Nat)(p q:Bool)(x y:Ω)(n:Nat)(hx:T.Dok x)(hy:T.Dok y)(hn:n=x.length+y.length+1)(hn9:n<20000000)(hkk:y.length+1≤kk) :
  ∀ (d i:Nat) (fr:Ψ) (wr out:Ω),i+d=x.length→out.length=n→TF fr p q x y n→nth fr 14=iv i→(∀ m,at0 out m≤81*i)→T.val out=T.val (x.take i)*T.val y →
  ∃ (fr':Ψ) (wr' out':Ω),ch (af (CC L) run kk jz) (d+1) ⟨fr,hpT out,wr⟩=some (.exit 0,⟨fr',hpT out',wr'⟩)∧TF fr' p q x y n∧out'.length=n∧(∀ m,at0 out' m≤81*x.length)∧T.val out'=T.val x*T.val y
 | 0,i,fr,wr,out,hi,ho,h,h14,hB,hv=>by
  have:i=x.length:=by omega
  subst this
  obtain⟨fr',g1,g2⟩:=Nr L run kk fr (hpT out) wr p q x y n h h14
  exact⟨fr',wr,out,bE g1,g2,ho,hB,by rw[hv,take_length]⟩
 | d+1,i,fr,wr,out,hi,ho,h,h14,hB,hv=>by
  obtain⟨f1,f2,g1,g2,g3,g4,g5⟩:=SU L run kk fr (hpT out) wr p q x y n i (by omega) h h14
  obtain⟨f3,wr3,out3,r1,r2,r3,r4,r5,r6⟩:=wL L run kk p q x y n i (T.val out) hx hy (by omega) hn hn9 y.length 0 f2 wr out (by omega) ho g3 g4 g5 (fun m=>by have:=hB m;omega) (fun m _=>hB m) (by simp[T.val])
  obtain⟨f4,s1,s2,s3⟩:=SR L run kk f3 (hpT out3) wr3 p q x y n i (by omega) r2 r3
  have hB1:af (CC L) run kk Eh ⟨f1,hpT out,wr⟩=some (.normal,⟨f3,hpT out3,wr3⟩):=by
   rw[SW,ar g2,bK (bT r1 hkk)]
  have hO1:af (CC L) run kk jz ⟨fr,hpT out,wr⟩=some (.normal,⟨f4,hpT out3,wr3⟩):=by
   rw[SS,ar g1,ar (fF hB1)]
   exact s1
  obtain⟨fr',wr',out',q1,q2⟩:=wK L run kk p q x y n hx hy hn hn9 hkk d (i+1) f4 wr3 out3 (by omega) r4 s2 s3 r5 (by
   rw[r6,hv,T.cB,Nat.add_mul]
   rw[Nat.mul_assoc (at0 x i),Nat.mul_assoc (at0 x i),Nat.mul_comm (T.val y)])
  exact⟨fr',wr',out',by rw[ca hO1];exact q1,q2⟩
def Hp:Code:=match bn tW with | .seq (.block _ c) _=>c | c=>c
theorem Zy:((Region.before (iP (seq1 Hp)))[15]?.getD 0).testBit 7=true:=by kernel_rfl
theorem Zx:((Region.before (iP (seq1 Hp)))[15]?.getD 0).testBit 11=true:=by kernel_rfl
theorem Nt (L:Lst)(run:aw)(k:Nat)(fr:Ψ)(hp:Θ)(wr:Ω)(p q:Bool)(x y:Ω)(n i:Nat)(hi:i+1=n)(hn9:n<20000000)(h:TF fr p q x y n)(h16:nth fr 16=iv i) :
  ∃ fr',af (CC L) run k tW ⟨fr,hp,wr⟩=some (.exit 4,⟨fr',hp,wr⟩)∧TF fr' p q x y n:=by
 obtain⟨h0,h9,h10,h11,h12,h13⟩:=h
 have hw:=bA i (by omega)
 subst hi
 simp only[iv] at h16
 simp[TF,tW,fx,f68,iq,h0,h9,h10,h11,h12,h13,h16,uL,hw]
set_option maxHeartbeats 4000000 in
theorem Eg (L:Lst)(run:aw)(kk:Nat)(fr:Ψ)(wr:Ω)(p q:Bool)(x y out:Ω)(n i j s r:Nat)(hj:j=i+1)(hjn:j<out.length)(hn:out.length=n)(hn9:n<20000000)
  (hb:at0 out i≤10000000000) (hb2:at0 out j≤10000000000) (hs:s=at0 out j+at0 out i / 10) (hr:r=at0 out i % 10) (h:TF fr p q x y n) (h16:nth fr 16=iv i) :
  ∃ fr' wr',af (CC L) run kk tW ⟨fr,hpT out,wr⟩=some (.normal,⟨fr',hpT ((out.set j s).set i r),wr'⟩)∧TF fr' p q x y n∧nth fr' 16=iv (i+1):=by
 obtain⟨h0,h9,h10,h11,h12,h13⟩:=h
 subst hn
 have hin:i<out.length:=by omega
 have hlt:(i:Int)+1<(out.length:Int):=by omega
 have hin2:i<(out.set j s).length:=by rw[length_set];exact hin
 have hd1:=fE out i hin
 have hd2:=fE out j hjn
 have hd3:=fE (out.set j s) i hin2
 rw[gk (by omega)] at hd3
 have hov:=mu (e:=iv) out j s hjn
 have hov2:=mu (e:=iv) (out.set j s) i r hin2
 generalize at0 out i=a at *
 generalize at0 out j=b at *
 obtain⟨t,ht⟩:∃ t,t=a / 10:=⟨_,rfl⟩
 rw[← ht] at hs
 have ht9:t≤10000000000:=by rw[ht];exact Nat.le_trans (Nat.div_le_self _ _) hb
 have hw1:bF .i64 ((a:Int) / 10)=(t:Int):=T.jK .i64 a t ht (hiI (Nat.le_trans ht9 (by decide)))
 have hw3:=T.lG a r hr
 clear ht hr
 have hwj:bF .i64 ((i:Int)+1)=(j:Int):=by rw[bA i (by omega)];omega
 have hw2:=dA .i64 b t s hs (hiI (by omega))
 have hb1:=Zy
 have hb3:=Zx
 simp[-Nat.testBit_zero,Hp,tW,fx,f68,seq1,bn,iP] at hb1 hb3
 have hji:nth fr 16=iv i:=h16
 simp only[iv] at h16 ⊢
 subst hj
 have hjI:((i+1:Nat):Int)=(i:Int)+1:=by omega
 rw[hjI] at hwj
 simp[-Nat.testBit_zero,-map_set,hb1,hb3,TF,tW,fx,f68,aU,bh,ji,partOf,and_assoc,iq,bd,rQ,dW,h0,h9,h10,h11,h12,h13,h16,uL,sI,aI,aX,aP,bZ,hin,hjn,hlt,hd1,hd2,hd3,hov,hov2,hwj,hw1,hw2,hw3,qI s,qI r,number,FP.free,cD,FP.apart]
theorem Jc {l:Ω}(h:∀ m,m<l.length→at0 l m<10):T.Dok l:=fun x hx=>by
 obtain⟨i,hi,rfl⟩:=getElem_of_mem hx
 have:=h i hi
 rwa [df hi] at this
theorem Pg {out:Ω}{i a b:Nat}(hj:i+1<out.length)(ha:a=at0 out i)(hb:b=at0 out (i+1)) :
  T.val ((out.set (i+1) (b+a / 10)).set i (a % 10))=T.val out:=by
 have h1:=T.qn out (i+1) (b+a / 10) hj
 have h2:=T.qn (out.set (i+1) (b+a / 10)) i (a % 10) (by rw[length_set];omega)
 rw[← df hj,← hb] at h1
 rw[← df (show i<(out.set (i+1) (b+a / 10)).length by rw[length_set];omega),gk (by omega),← ha] at h2
 have h3:a=10*(a / 10)+a % 10:=(Nat.div_add_mod a 10).symm
 rw[Nat.pow_succ] at h1
 generalize a / 10=q at *
 generalize a % 10=r at *
 have h4:a*10 ^ i=10*q*10 ^ i+r*10 ^ i:=by rw[h3,Nat.add_mul]
 have h5:(b+q)*(10 ^ i*10)=b*(10 ^ i*10)+10*q*10 ^ i:=by
  rw[Nat.add_mul,Nat.mul_comm (10 ^ i) 10,← Nat.mul_assoc q,Nat.mul_comm q 10]
 omega
theorem wM (L:Lst)(run:aw)(kk:Nat)(p q:Bool)(x y:Ω)(n W V:Nat)(hn9:n<20000000)(hW:W<20000000)(hV:V<10 ^ (n - 1)) :
  ∀ (d i:Nat) (fr:Ψ) (wr out:Ω),i+d+1=n→out.length=n→TF fr p q x y n→nth fr 16=iv i→(∀ m,m<i→at0 out m<10)→at0 out i≤90*W→(∀ m,i<m→at0 out m≤81*W)→T.val out=V →
  ∃ (fr':Ψ) (wr' out':Ω),ch (af (CC L) run kk tW) (d+1) ⟨fr,hpT out,wr⟩=some (.exit 4,⟨fr',hpT out',wr'⟩)∧TF fr' p q x y n∧out'.length=n∧T.Dok out'∧T.val out'=V
 | 0,i,fr,wr,out,hi,ho,h,h16,hB,hB1,hB2,hv=>by
  obtain⟨fr',g1,g2⟩:=Nt L run kk fr (hpT out) wr p q x y n i (by omega) hn9 h h16
  refine⟨fr',wr,out,bE g1,g2,ho,Jc fun m hm => ?_,hv⟩
  by_cases hmi:m<i
  ·exact hB m hmi
  ·have e:m=i:=by omega
   subst e
   have h1:T.val out=T.val (out.take (m+1)):=by rw[T.cH _ _ (by omega)]
   rw[T.cB,hv] at h1
   have hne:n - 1=m:=by omega
   rw[hne] at hV
   rcases Nat.eq_zero_or_pos (at0 out m) with h0 | h0
   ·omega
   ·have:=Nat.mul_le_mul_right (10 ^ m) h0
    omega
 | d+1,i,fr,wr,out,hi,ho,h,h16,hB,hB1,hB2,hv=>by
  have hj1:=hB2 (i+1) (by omega)
  have hjn:i+1<out.length:=by omega
  obtain⟨fr1,wr1,g1,g2,g3⟩:=Eg L run kk fr wr p q x y out n i (i+1) _ _ rfl hjn ho hn9 (by omega) (by omega) rfl rfl h h16
  have hat:∀ m,at0 ((out.set (i+1) (at0 out (i+1)+at0 out i / 10)).set i (at0 out i % 10)) m=if m=i then at0 out i % 10 else if m=i+1 then at0 out (i+1)+at0 out i / 10 else at0 out m:=by
   intro m
   by_cases e:m=i
   ·subst e
    rw[if_pos rfl,df (by simp;omega)]
    simp
   ·rw[if_neg e,gk (fun h=>e h.symm)]
    by_cases e2:m=i+1
    ·subst e2
     rw[if_pos rfl,df (by simp;omega)]
     simp
    ·rw[if_neg e2,gk (fun h=>e2 h.symm)]
  have hq:at0 out i / 10≤9*W:=Nat.div_le_of_le_mul (by omega)
  obtain⟨fr',wr',out',q1,q2⟩:=wM L run kk p q x y n W V hn9 hW hV d (i+1) fr1 wr1 ((out.set (i+1) (at0 out (i+1)+at0 out i / 10)).set i (at0 out i % 10)) (by omega) (by simp[ho]) g2 g3
   (fun m hm=>by
    rw[hat]
    by_cases e:m=i
    ·rw[if_pos e];exact Nat.mod_lt _ (by omega)
    ·rw[if_neg e,if_neg (by omega)];exact hB m (by omega))
   (by
    rw[hat,if_neg (by omega),if_pos rfl]
    omega)
   (fun m hm=>by
    rw[hat,if_neg (by omega),if_neg (by omega)]
    exact hB2 m (by omega))
   (by rw[Pg hjn rfl rfl];exact hv)
  exact⟨fr',wr',out',by rw[ca g1];exact q1,q2⟩
def Ho:Code:=seq1 (seq1 (ag 7 fx))
def BS:Code:=seq1 (seq1 (ag 8 fx))
theorem SO:ag 7 fx = .seq (.seq Ho (.block 0 (.loop jz))) (ag 8 fx):=rfl
theorem SN:ag 8 fx = .seq (.seq BS (.block 4 (.loop tW))) (ag 9 fx):=rfl
set_option maxHeartbeats 1000000 in
theorem aed(s t r:ByteArray)(u v w:Int)(g1:az L run 113 [.sc (.string s)] (.tup [Ab.bJ u,.sc (.bool true)]))(g2:az L run 113 [.sc (.string t)] (.tup [Ab.bJ v,.sc (.bool true)]))
  (hw:bF .i64 (u*v)=w) (g3:az L run 114 [.sc (.int .i64 w)] (.sc (.string r))) :
  ∃ st,af (CC L) run k fx ⟨entry 120 [.sc (.string s),.sc (.string t)],[],[]⟩=some (.ret,st)∧bc TT st.fr st.hp f68.results.toList=some [.sc (.string r)]:=by
 obtain⟨e1,e2,e3⟩:=cC 118 (.sc (.string s)) (.sc (.string t))
 generalize entry 120 [.sc (.string s),.sc (.string t)]=fr0 at *
 unfold az at *
 simp only[Ab.bJ] at *
 simp[fx,f68,e1,e2,e3,aM,g1,g2,hw,g3,bc]
set_option maxHeartbeats 1000000 in
theorem SQ (L:Lst)(run:aw)(k:Nat)(s t:ByteArray)(u v:Int)(f1 f2:Bool)(hf:(f1 && f2)=false)(g1:az L run 113 [.sc (.string s)] (.tup [Ab.bJ u,.sc (.bool f1)]))(g2:az L run 113 [.sc (.string t)] (.tup [Ab.bJ v,.sc (.bool f2)])) :
  ∃ fr,ba (CC L) run k 4 fx ⟨entry 120 [.sc (.string s),.sc (.string t)],[],[]⟩=some ⟨fr,[],[]⟩∧fr.length=120∧nth fr 0 = .sc (.string s)∧nth fr 1 = .sc (.string t):=by
 obtain⟨e1,e2,e3⟩:=cC 118 (.sc (.string s)) (.sc (.string t))
 generalize entry 120 [.sc (.string s),.sc (.string t)]=fr0 at *
 unfold az at *
 simp only[Ab.bJ] at *
 cases f1 <;> cases f2 <;> simp only[Bool.and_true,Bool.and_false,Bool.and_self,Bool.true_eq_false] at hf <;> simp[fx,f68,ba,e1,e2,e3,aM,g1,g2,undef]
set_option maxHeartbeats 1000000 in
theorem Zw(s t:ByteArray)(m n:Bool)(a b:Ω)(g1:az L run 115 [.sc (.string s)] (.tup [.sc (.bool m),bx a]))(g2:az L run 115 [.sc (.string t)] (.tup [.sc (.bool n),bx b]))
  (h120:fr.length=120) (h0:nth fr 0 = .sc (.string s)) (h1:nth fr 1 = .sc (.string t)) (hl:a.length+b.length<19000000) :
  ∃ fr' wr',ba (CC L) run k 3 (ag 4 fx) ⟨fr,[],[]⟩=some ⟨fr',hpT (List.replicate (a.length+b.length+1) 0),wr'⟩∧TF fr' m n a b (a.length+b.length+1):=by
 unfold az at *
 obtain⟨w,hw⟩:∃ w,w=a.length+b.length:=⟨_,rfl⟩
 have hw1:=dA .i64 a.length b.length w hw (hiI (by omega))
 have hw2:=bA w (by omega)
 have hm:w+1≤cN:=Nat.le_trans (show w+1≤19000001 by omega) (by decide)
 rw[show hpT (List.replicate (a.length+b.length+1) 0)=[⟨.live,rep (w+1) [iv 0]⟩] by rw[ahE,hw]]
 rw[← hw]
 simp[TF,fx,f68,ba,h120,h0,h1,aM,ji,and_assoc,dV,g1,g2,uL,sI,bI,zI,hw1,hw2,hm,aL,bQ]
theorem Zv (L:Lst)(run:aw)(k:Nat)(fr:Ψ)(hp:Θ)(wr:Ω)(p q:Bool)(x y:Ω)(n:Nat)(h:TF fr p q x y n) :
  ∃ fr',af (CC L) run k Ho ⟨fr,hp,wr⟩=some (.normal,⟨fr',hp,wr⟩)∧TF fr' p q x y n∧nth fr' 14=iv 0:=by
 obtain⟨h0,h9,h10,h11,h12,h13⟩:=h
 simp[TF,Ho,fx,f68,seq1,and_assoc,h0,h9,h10,h11,h12,h13,iv]
theorem SP (L:Lst)(run:aw)(k:Nat)(fr:Ψ)(hp:Θ)(wr:Ω)(p q:Bool)(x y:Ω)(n:Nat)(h:TF fr p q x y n) :
  ∃ fr',af (CC L) run k BS ⟨fr,hp,wr⟩=some (.normal,⟨fr',hp,wr⟩)∧TF fr' p q x y n∧nth fr' 16=iv 0:=by
 obtain⟨h0,h9,h10,h11,h12,h13⟩:=h
 simp[TF,BS,fx,f68,seq1,and_assoc,h0,h9,h10,h11,h12,h13,iv]
theorem Nq (L:Lst)(run:aw)(k:Nat)(fr:Ψ)(hp hp':Θ)(wr:Ω)(p q:Bool)(x y:Ω)(n:Nat)(r:PV)(fp:FP)(h:TF fr p q x y n)(hc:bU (CC L) run false hp 116 [.sc (.bool (p != q)),.own 0 1 0 n true]=some (r,hp',fp)) :
  ∃ st,af (CC L) run k (ag 9 fx) ⟨fr,hp,wr⟩=some (.ret,st)∧bc TT st.fr st.hp f68.results.toList=some [r]:=by
 obtain⟨h0,h9,h10,h11,h12,h13⟩:=h
 cases p <;> cases q <;> simp only[bne_self_eq_false,Bool.bne_true,Bool.bne_false,Bool.not_false] at hc <;> simp[fx,f68,aM,dP,uB,h0,h9,h11,h13,hc,bc]
def zU:Ψ→Option Ψ
 | [p,q]=>match fL p,fL q with
  | some x,some y=>some [zs (x*y)]
  | _,_=>none
 | _=>none
theorem RY (x y:Int):gL (bw x != bw y) (x.natAbs*y.natAbs)=x*y:=by
 rw[← Int.natAbs_mul,kI,cK,cK]
 have h:=Int.natAbs_mul x y
 rcases Int.lt_or_le x 0 with hx | hx <;> rcases Int.lt_or_le y 0 with hy | hy
 ·have h1:0≤x*y:=Int.mul_nonneg_of_nonpos_of_nonpos (by omega) (by omega)
  simp[hx,hy]
  omega
 ·have h1:x*y≤0:=Int.mul_nonpos_of_nonpos_of_nonneg (by omega) hy
  have h2 : ¬ y<0:=by omega
  simp[hx,h2]
  omega
 ·have h1:x*y≤0:=Int.mul_nonpos_of_nonneg_of_nonpos hx (by omega)
  have h2 : ¬ x<0:=by omega
  simp[hy,h2]
  omega
 ·have h1:0≤x*y:=Int.mul_nonneg hx hy
  have h2 : ¬ x<0:=by omega
  have h3 : ¬ y<0:=by omega
  simp[h2,h3]
  omega
theorem zT:Ab.Spec base.P 68 zU:=Ab.Spec.bN (C:=CC LT4) (cP yt) fun args rs h=>by
 unfold zU at h
 split at h
 ·split at h
  ·rename_i x y ex ey
   obtain⟨rfl,hx⟩:=dk ex
   obtain⟨rfl,hy⟩:=dk ey
   simp only[OiE] at h
   subst h
   have hx9:=Zm.Ls hx
   have hy9:=Zm.Ls hy
   generalize hK:(T.aK x.natAbs).length+(T.aK y.natAbs).length+2=K
   have gs1:=oT (runK (CC LT4) K) x hx
   have gs2:=oT (runK (CC LT4) K) y hy
   suffices hgo:∃ st,af (CC LT4) (runK (CC LT4) K) K fx ⟨entry 120 [zs x,zs y],[],[]⟩=some (.ret,st)∧bc TT st.fr st.hp f68.results.toList=some [zs (x*y)] by
    obtain⟨st,x1,x2⟩:=hgo
    exact⟨K+1,_,_,_,_,_,aV CK rfl x1 x2,rfl,Wk.refl rfl,trivial⟩
   have rest:∀ (u v:Int) (f1 f2:Bool),(f1 && f2)=false→az LT4 (runK (CC LT4) K) 113 [zs x] (.tup [Ab.bJ u,.sc (.bool f1)])→az LT4 (runK (CC LT4) K) 113 [zs y] (.tup [Ab.bJ v,.sc (.bool f2)]) →
     ∃ st,af (CC LT4) (runK (CC LT4) K) K fx ⟨entry 120 [zs x,zs y],[],[]⟩=some (.ret,st)∧bc TT st.fr st.hp f68.results.toList=some [zs (x*y)]:=by
    intro u v f1 f2 hf q1 q2
    obtain⟨fr1,a1,a2,a3,a4⟩:=SQ LT4 (runK (CC LT4) K) K _ _ u v f1 f2 hf q1 q2
    obtain⟨fr2,wr2,b1,b2⟩:=Zw LT4 (runK (CC LT4) K) K fr1 _ _ _ _ _ _ (kS _ x hx) (kS _ y hy) a2 a3 a4 (by omega)
    obtain⟨fr3,c1,c2,c3⟩:=Zv LT4 (runK (CC LT4) K) K fr2 (hpT (List.replicate ((T.aK x.natAbs).length+(T.aK y.natAbs).length+1) 0)) wr2 _ _ _ _ _ b2
    have hz:∀ m,at0 (List.replicate ((T.aK x.natAbs).length+(T.aK y.natAbs).length+1) 0) m=0:=by
     intro m
     unfold at0
     rw[getElem?_replicate]
     split <;> rfl
    obtain⟨fr4,wr4,out4,d1,d2,d3,d4,d5⟩:=wK LT4 (runK (CC LT4) K) K _ _ _ _ _ (T.bS x.natAbs) (T.bS y.natAbs) rfl (by omega) (by omega) _ 0 fr3 wr2 (List.replicate ((T.aK x.natAbs).length+(T.aK y.natAbs).length+1) 0) (Nat.zero_add _) (by simp) c2 c3 (fun m=>by rw[hz];omega) (by rw[T.oB];simp[T.val])
    obtain⟨fr5,e1,e2,e3⟩:=SP LT4 (runK (CC LT4) K) K fr4 (hpT out4) wr4 _ _ _ _ _ d2
    rw[T.bV,T.bV] at d5
    have hlt:x.natAbs*y.natAbs<10 ^ ((T.aK x.natAbs).length+(T.aK y.natAbs).length+1 - 1):=by
     rw[Nat.add_sub_cancel,Nat.pow_add]
     exact Nat.mul_lt_mul'' (T.fD _) (T.fD _)
    obtain⟨fr6,wr6,out6,f1,f2,f3,f4,f5⟩:=wM LT4 (runK (CC LT4) K) K _ _ _ _ _ (T.aK x.natAbs).length (x.natAbs*y.natAbs) (by omega) (by omega) hlt ((T.aK x.natAbs).length+(T.aK y.natAbs).length) 0 fr5 wr4 out4 (by omega) d3 e2 e3 (fun m hm=>by omega) (by have:=d4 0;omega) (fun m _=>d4 m) d5
    have hO:jY iv 0 (hpT out6) out6 (.own 0 1 0 ((T.aK x.natAbs).length+(T.aK y.natAbs).length+1) true):=⟨Nat.zero_le _,.inr ⟨0,[],true,Nat.le_refl _,by simp,by rw[f3],fun _=>rfl,by rw[append_nil];rfl⟩⟩
    have htx:=A9 (bw x != bw y) out6 f4 (by omega)
    rw[f5,RY] at htx
    obtain⟨hp7,fp,g1,-⟩:=o9 kd EL (runK (CC LT4) K) false iY (bw x != bw y) hO _ htx
    obtain⟨st,x1,x2⟩:=Nq LT4 (runK (CC LT4) K) K fr6 (hpT out6) hp7 wr6 _ _ _ _ _ _ fp f2 g1
    refine⟨st,?_,x2⟩
    have h1:af (CC LT4) (runK (CC LT4) K) K fx ⟨entry 120 [zs x,zs y],[],[]⟩=af (CC LT4) (runK (CC LT4) K) K (ag 4 fx) ⟨fr1,[],[]⟩:=aQ 4 a1
    rw[h1,aQ 3 b1,show ag 3 (ag 4 fx)=ag 7 fx from rfl,SO,ar ((ar c1).trans (bK (bT d1 (by omega)))),SN,ar ((ar e1).trans (bK (bT f1 (by omega))))]
    exact x1
   cases h1:(eA x).ble 9 with
   | false =>
    rw[h1] at gs1
    cases h2:(eA y).ble 9 with
    | false=>rw[h2] at gs2;exact rest _ _ false false rfl gs1 gs2
    | true=>rw[h2] at gs2;exact rest _ _ false true rfl gs1 gs2
   | true =>
    rw[h1] at gs1
    cases h2:(eA y).ble 9 with
    | false=>rw[h2] at gs2;exact rest _ _ true false rfl gs1 gs2
    | true =>
     rw[h2] at gs2
     have b1:=yW h1
     have b2:=yW h2
     have hab:(x*y).natAbs≤999999999*999999999:=by
      rw[Int.natAbs_mul]
      exact Nat.mul_le_mul (by omega) (by omega)
     exact aed LT4 (runK (CC LT4) K) K _ _ _ x y (x*y) gs1 gs2 (fA _ (by omega) (by omega)) (Lc _ (x*y) (by omega) (by omega))
  ·cases h
 ·cases h
def jc:Code:=f111.body.getD .skip
def yG:Code:=((f111.body).bind aA).getD .skip
theorem Zr(l:Ω)(h53:fr.length=53)(h3:nth fr 3 = .sc (.string (tx l)))(h4:nth fr 4=iv l.length) :
  ∃ fr',af (CC L) run k yG ⟨fr,[],[]⟩=some (.exit 0,⟨fr',[],[]⟩)∧fr'.length=53:=by
 simp only[iv] at h4
 simp[yG,f111,dT,h53,h3,h4,uAI]
set_option maxHeartbeats 1000000 in
theorem aec(l:Ω)(i:Nat)(hl:Bok l)(hi:i<l.length)(hi9:i<20000000)(hd:lZ (at0 l i)=true)(h53:fr.length=53)(h3:nth fr 3 = .sc (.string (tx l)))(h4:nth fr 4=iv i) :
  ∃ fr',af (CC L) run k yG ⟨fr,[],[]⟩=some (.normal,⟨fr',[],[]⟩)∧fr'.length=53∧nth fr' 3 = .sc (.string (tx l))∧nth fr' 4=iv (i+1):=by
 have hx:=fg uAI hl .i64 i hi
 rw[dN] at hd
 have hw:=bA i (by omega)
 generalize at0 l i=b at *
 have h1 : ¬ ((b:Int)<48):=by omega
 have h2 : ¬ ((57:Int)<b):=by omega
 simp only[iv] at h4 ⊢
 simp[yG,f111,dT,h53,h3,h4,uAI,hi,hx,h1,h2,hw]
set_option maxHeartbeats 1000000 in
theorem Zs(l:Ω)(i:Nat)(hl:Bok l)(hi:i<l.length)(hd:lZ (at0 l i)=false)(h53:fr.length=53)(h3:nth fr 3 = .sc (.string (tx l)))(h4:nth fr 4=iv i) :
  ∃ fr',af (CC L) run k yG ⟨fr,[],[]⟩=some (.ret,⟨fr',[],[]⟩)∧nth fr' 2 = .sc (.bool false):=by
 have hx:=fg uAI hl .i64 i hi
 generalize at0 l i=b at *
 have hd':(b:Int)<48∨(57:Int)<b:=by
  have : ¬ (48≤b∧b≤57):=fun h=>by rw[dN.2 h] at hd;cases hd
  omega
 simp only[iv] at h4
 by_cases h1:(b:Int)<48
 ·simp[yG,f111,dT,h53,h3,h4,uAI,hi,hx,h1]
 ·have h2:(57:Int)<b:=by omega
  simp[yG,f111,dT,h53,h3,h4,uAI,hi,hx,h1,h2]
theorem DZ (L:Lst)(run:aw)(k:Nat)(l:Ω)(hl:Bok l)(h9:l.length<20000000):∀ (n i:Nat) (fr:Ψ),i+n=l.length→fr.length=53→nth fr 3 = .sc (.string (tx l))→nth fr 4=iv i →
  (eO (l.drop i)=true∧∃ fr',ch (af (CC L) run k yG) (n+1) ⟨fr,[],[]⟩=some (.exit 0,⟨fr',[],[]⟩)∧fr'.length=53) ∨
  (eO (l.drop i)=false∧∃ fr',ch (af (CC L) run k yG) (n+1) ⟨fr,[],[]⟩=some (.ret,⟨fr',[],[]⟩)∧nth fr' 2 = .sc (.bool false))
 | 0,i,fr,hi,h53,h3,h4=>by
  have:i=l.length:=by omega
  subst this
  obtain⟨fr',g1,g2⟩:=Zr L run k fr l h53 h3 h4
  exact .inl ⟨by rw[drop_length];rfl,fr',bE g1,g2⟩
 | n+1,i,fr,hi,h53,h3,h4=>by
  have hil:i<l.length:=by omega
  have hdr:eO (l.drop i)=(lZ (at0 l i) && eO (l.drop (i+1))):=by rw[drop_eq_getElem_cons hil,df hil];rfl
  cases hd:lZ (at0 l i) with
  | true =>
   obtain⟨fr1,g1,g2,g3,g4⟩:=aec L run k fr l i hl hil (by omega) hd h53 h3 h4
   rw[hdr,hd,Bool.true_and,ca g1]
   exact DZ L run k l hl h9 n (i+1) fr1 (by omega) g2 g3 g4
  | false =>
   obtain⟨fr1,g1,g2⟩:=Zs L run k fr l i hl hil hd h53 h3 h4
   exact .inr ⟨by rw[hdr,hd];rfl,fr1,ez g1,g2⟩
def tS:Code:=seq1 (ag 2 jc)
def wJ:Code:=seq1 (ag 3 jc)
def SI:Code:=seq1 (seq1 (ag 4 jc))
theorem vh:ag 2 jc = .seq tS (ag 3 jc):=rfl
theorem BO:ag 3 jc = .seq wJ (ag 4 jc):=rfl
theorem KA:ag 4 jc = .seq (.seq SI (.block 0 (.loop yG))) (ag 5 jc):=rfl
theorem Zq (L:Lst)(run:aw)(k:Nat)(s:ByteArray) :
  ∃ fr,ba (CC L) run k 2 jc ⟨entry 53 [.sc (.string s)],[],[]⟩=some ⟨fr,[],[]⟩∧fr.length=53∧nth fr 3 = .sc (.string s):=by
 obtain⟨e1,e2⟩:=cL 52 (.sc (.string s))
 generalize entry 53 [.sc (.string s)]=fr0 at *
 simp[jc,f111,ba,e1,e2]
theorem Q6 (l:Ω)(k:Nat)(hp:Θ)(h:k≤l.length):dh TT hp 94 (.sc (.string (tx l))) (some (.sc (.int .i64 (k:Int)))) none none=some (.sc (.string (tx (l.drop k)))):=by
 simp only[dh,uAI,ef,dT,bnd,eD,bh]
 simp[tx,fm,h]
 rw[take_of_length_le (by simp)]
theorem aiC (a:Nat):((a:Int) == 48)=a.beq 48:=by
 cases h:a.beq 48 with
 | true=>rw[Nat.eq_of_beq_eq_true h];rfl
 | false =>
  rw[beq_eq_false_iff_ne]
  intro e
  have:a=48:=by omega
  subst this;cases h
def kY:Ω→Option Ω
 | []=>some []
 | a::l=>bif a.beq 45 then (match l with
  | []=>some []
  | b::l=>bif b.beq 48 then none else some (b::l)) else some (a::l)
set_option maxHeartbeats 2000000 in
theorem aeb(l:Ω)(hl:Bok l)(h53:fr.length=53)(h3:nth fr 3 = .sc (.string (tx l))) :
  (kY l=none∧∃ fr',af (CC L) run k tS ⟨fr,[],[]⟩=some (.ret,⟨fr',[],[]⟩)∧nth fr' 2 = .sc (.bool false)) ∨
  ∃ l' fr',kY l=some l'∧af (CC L) run k tS ⟨fr,[],[]⟩=some (.normal,⟨fr',[],[]⟩)∧fr'.length=53∧nth fr' 3 = .sc (.string (tx l')):=by
 cases l with
 | nil =>
  refine .inr ⟨[],?_⟩
  simp[kY,tS,jc,f111,seq1,dT,h53,h3,uAI,undef]
 | cons a l =>
  have hx:ig TT 94 (.sc (.string (tx (a::l)))) (.sc (.int .i64 0))=some (.sc (.int .u8 (a:Int))):=fg uAI hl .i64 0 (by simp)
  have hp:(0:Int)<(l.length:Int)+1:=by omega
  have hb:=af0 a
  have hs:dh TT [] 94 (.sc (.string (tx (a::l)))) (some (.sc (.int .i64 1))) none none=some (.sc (.string (tx l))):=Q6 (a::l) 1 [] (by simp)
  cases h:a.beq 45 with
  | false =>
   rw[h] at hb
   refine .inr ⟨a::l,?_⟩
   simp[kY,h,tS,jc,f111,seq1,dT,h53,h3,uAI,hx,hp,hb]
  | true =>
   rw[h] at hb
   cases l with
   | nil =>
    refine .inr ⟨[],?_⟩
    simp[kY,h,tS,jc,f111,seq1,dT,h53,h3,uAI,hx,hb,hs,undef]
   | cons b l =>
    have hl2:Bok (b::l):=fun x hx=>hl x (mem_cons_of_mem _ hx)
    have hx2:ig TT 94 (.sc (.string (tx (b::l)))) (.sc (.int .i64 0))=some (.sc (.int .u8 (b:Int))):=fg uAI hl2 .i64 0 (by simp)
    have hp2:(0:Int)<(l.length:Int)+1:=by omega
    have hp3:(0:Int)<(l.length:Int)+1+1:=by omega
    have hb2:=aiC b
    cases h2:b.beq 48 with
    | true =>
     rw[h2] at hb2
     refine .inl ⟨by simp[kY,h,h2],?_⟩
     simp[tS,jc,f111,seq1,dT,h53,h3,uAI,hx,hb,hs,hx2,hp2,hp3,hb2]
    | false =>
     rw[h2] at hb2
     refine .inr ⟨b::l,?_⟩
     simp[kY,h,h2,tS,jc,f111,seq1,dT,h53,h3,uAI,hx,hb,hs,hx2,hp2,hp3,hb2]
def vHd:Ω→Bool
 | []=>true
 | [_]=>false
 | a::_::_=>a.beq 48
set_option maxHeartbeats 2000000 in
theorem aea(l:Ω)(hl:Bok l)(h53:fr.length=53)(h3:nth fr 3 = .sc (.string (tx l))) :
  (vHd l=true∧∃ fr',af (CC L) run k wJ ⟨fr,[],[]⟩=some (.ret,⟨fr',[],[]⟩)∧nth fr' 2 = .sc (.bool false)) ∨
  (vHd l=false∧∃ fr',af (CC L) run k wJ ⟨fr,[],[]⟩=some (.normal,⟨fr',[],[]⟩)∧fr'.length=53∧nth fr' 3 = .sc (.string (tx l))):=by
 cases l with
 | nil =>
  refine .inl ⟨rfl,?_⟩
  simp[wJ,jc,f111,seq1,dT,h53,h3,uAI,undef]
 | cons a l =>
  have hx:ig TT 94 (.sc (.string (tx (a::l)))) (.sc (.int .i64 0))=some (.sc (.int .u8 (a:Int))):=fg uAI hl .i64 0 (by simp)
  have hb:=aiC a
  cases l with
  | nil =>
   refine .inr ⟨rfl,?_⟩
   cases h:a.beq 48 <;> rw[h] at hb <;> simp[wJ,jc,f111,seq1,dT,h53,h3,uAI,hx,hb,undef]
  | cons b l =>
   have hne:((l.length:Int)+1+1 == 0)=false:=by rw[beq_eq_false_iff_ne];omega
   have hne2 : ¬ ((l.length:Int)+1+1=0):=by omega
   have hlt:(1:Int)<(l.length:Int)+1+1:=by omega
   cases h:a.beq 48 with
   | true =>
    rw[h] at hb
    refine .inl ⟨h,?_⟩
    simp[wJ,jc,f111,seq1,dT,h53,h3,uAI,hx,hb,hne,hlt]
   | false =>
    rw[h] at hb
    refine .inr ⟨h,?_⟩
    simp[wJ,jc,f111,seq1,dT,h53,h3,uAI,hx,hb,hne,undef]
theorem ad9(h53:fr.length=53) :
  ∃ fr',af (CC L) run k SI ⟨fr,[],[]⟩=some (.normal,⟨fr',[],[]⟩)∧fr'.length=53∧nth fr' 3=nth fr 3∧nth fr' 4=iv 0:=by
 simp[SI,jc,f111,seq1,h53,iv]
theorem SH(h53:fr.length=53) :
  ∃ st,af (CC L) run k (ag 5 jc) ⟨fr,[],[]⟩=some (.ret,st)∧bc TT st.fr st.hp f111.results.toList=some [.sc (.bool true)]:=by
 simp[jc,f111,h53,bc]
def lC (l:Ω):Bool:=match kY l with
 | none=>false
 | some l' => !vHd l' && eO l'
def SJ:Ψ→Option Ψ
 | [.sc (.string s)]=>bif (bys s).length.blt 20000000 then some [.sc (.bool (lC (bys s)))] else none
 | _=>none
theorem BP(h2:nth fr 2 = .sc (.bool false)):bc TT fr [] f111.results.toList=some [.sc (.bool false)]:=by
 simp[f111,bc,h2]
theorem Ys {l l':Ω}(h:kY l=some l')(hl:Bok l):Bok l'∧l'.length≤l.length:=by
 cases l with
 | nil=>simp only[kY,OiE] at h;subst h;exact⟨hl,Nat.le_refl _⟩
 | cons a l =>
  cases ha:a.beq 45 with
  | false=>simp only[kY,ha,cond_false,OiE] at h;subst h;exact⟨hl,Nat.le_refl _⟩
  | true =>
   cases l with
   | nil=>simp only[kY,ha,cond_true,OiE] at h;subst h;exact⟨Bok.nil,Nat.zero_le _⟩
   | cons b l =>
    cases hb:b.beq 48 with
    | true=>simp[kY,ha,hb] at h
    | false =>
     simp only[kY,ha,hb,cond_true,cond_false,OiE] at h
     subst h
     exact⟨fun x hx=>hl x (mem_cons_of_mem _ hx),by simp⟩
theorem SG:Ab.Spec base.P 111 SJ:=Ab.Spec.bN (C:=CC []) (cP trivial) fun args rs h=>by
 unfold SJ at h
 split at h
 ·rename_i s
  cases hb:(bys s).length.blt 20000000 with
  | false=>rw[hb] at h;cases h
  | true =>
   rw[hb] at h
   simp only[cond_true,OiE] at h
   subst h
   rw[Nat.blt_eq] at hb
   have hok:=mO s
   obtain⟨f1,a1,a2,a3⟩:=Zq [] (runK (CC []) 20000000) 20000000 s
   rw[← iw s] at a3
   rcases aeb [] (runK (CC []) 20000000) 20000000 f1 (bys s) hok a2 a3 with ⟨hc,f2,b1,b2⟩| ⟨l',f2,hc,b1,b2,b3⟩
   ·have hv:lC (bys s)=false:=by rw[lC,hc]
    have hx:af (CC []) (runK (CC []) 20000000) 20000000 jc ⟨entry 53 [.sc (.string s)],[],[]⟩=some (.ret,⟨f2,[],[]⟩):=by
     rw[aQ 2 a1,vh,cj b1]
    rw[hv]
    exact⟨20000001,_,_,_,_,_,aV jZ rfl hx (BP f2 b2),rfl,Wk.refl rfl,trivial⟩
   ·obtain⟨hok',hlen⟩:=Ys hc hok
    rcases aea [] (runK (CC []) 20000000) 20000000 f2 l' hok' b2 b3 with ⟨hh,f3,c1,c2⟩| ⟨hh,f3,c1,c2,c3⟩
    ·have hv:lC (bys s)=false:=by rw[lC,hc];simp[hh]
     have hx:af (CC []) (runK (CC []) 20000000) 20000000 jc ⟨entry 53 [.sc (.string s)],[],[]⟩=some (.ret,⟨f3,[],[]⟩):=by
      rw[aQ 2 a1,vh,ar b1,BO,cj c1]
     rw[hv]
     exact⟨20000001,_,_,_,_,_,aV jZ rfl hx (BP f3 c2),rfl,Wk.refl rfl,trivial⟩
    ·obtain⟨f4,d1,d2,d3,d4⟩:=ad9 [] (runK (CC []) 20000000) 20000000 f3 c2
     rcases DZ [] (runK (CC []) 20000000) 20000000 l' hok' (by omega) l'.length 0 f4 (by omega) d2 (by rw[d3,c3]) d4 with ⟨hd,f5,e1,e2⟩| ⟨hd,f5,e1,e2⟩
     ·rw[drop_zero] at hd
      have hv:lC (bys s)=true:=by rw[lC,hc];simp[hh,hd]
      obtain⟨st,x1,x2⟩:=SH [] (runK (CC []) 20000000) 20000000 f5 e2
      have hx:af (CC []) (runK (CC []) 20000000) 20000000 jc ⟨entry 53 [.sc (.string s)],[],[]⟩=some (.ret,st):=by
       rw[aQ 2 a1,vh,ar b1,BO,ar c1,KA,ar ((ar d1).trans (bK (bT e1 (by omega))))]
       exact x1
      rw[hv]
      exact⟨20000001,_,_,_,_,_,aV jZ rfl hx x2,rfl,Wk.refl rfl,trivial⟩
     ·rw[drop_zero] at hd
      have hv:lC (bys s)=false:=by rw[lC,hc];simp[hd]
      have hx:af (CC []) (runK (CC []) 20000000) 20000000 jc ⟨entry 53 [.sc (.string s)],[],[]⟩=some (.ret,⟨f5,[],[]⟩):=by
       rw[aQ 2 a1,vh,ar b1,BO,ar c1,KA]
       exact cj ((ar d1).trans (da (bT e1 (by omega))))
      rw[hv]
      exact⟨20000001,_,_,_,_,_,aV jZ rfl hx (BP f5 e2),rfl,Wk.refl rfl,trivial⟩
 ·cases h
theorem sb:base.F.get 65=some f65:=by kernel_rfl
theorem Gb:base.F.get 48=some f48:=by kernel_rfl
theorem Jj:base.F.get 122=some f122:=by kernel_rfl
theorem uF:base.F.get 24=some f24:=by kernel_rfl
theorem CJ:base.F.get 34=some f34:=by kernel_rfl
theorem pc:base.F.get 64=some f64:=by kernel_rfl
theorem CI:base.F.get 23=some f23:=by kernel_rfl
theorem yw:base.F.get 67=some f67:=by kernel_rfl
theorem mf:base.shared 65=false:=by kernel_rfl
theorem MC:base.shared 48=false:=by kernel_rfl
theorem MB:base.shared 24=false:=by kernel_rfl
theorem GR:base.shared 34=false:=by kernel_rfl
theorem YI:base.shared 64=false:=by kernel_rfl
theorem GQ:base.shared 23=false:=by kernel_rfl
theorem Rk:base.shared 67=false:=by kernel_rfl
def LT5:Lst:=[(120,nG),(66,iE),(100,oO)]
theorem agD:dt base.P LT5:=⟨wW,nE,uk,trivial⟩
theorem aag:bt LT5 120=fun a=>nG (aJ a):=rfl
theorem Ub:bt LT5 66=fun a=>iE (aJ a):=rfl
theorem Zm.neg {z:Int}(h:Zm z)(h2:Ab.eA z<fO):Zm (-z):=by
 unfold Zm
 rw[gu,CQ]
 cases bw (-z) <;> simp <;> omega
theorem HI(s t u r:ByteArray)(g1:az L run 120 [.sc (.string t)] (.sc (.string u)))(g2:az L run 66 [.sc (.string s),.sc (.string u)] (.sc (.string r))) :
  ∃ st,af (CC L) run k (f157.body.getD .skip) ⟨entry 9 [.sc (.string s),.sc (.string t)],[],[]⟩=some (.ret,st)∧bc TT st.fr st.hp f157.results.toList=some [.sc (.string r)]:=by
 obtain⟨e1,e2,e3⟩:=cC 7 (.sc (.string s)) (.sc (.string t))
 generalize entry 9 [.sc (.string s),.sc (.string t)]=fr0 at *
 unfold az at *
 simp[f157,e1,e2,e3,aM,g1,g2,bc]
def wX:Ψ→Option Ψ
 | [p,q]=>match fL p,fL q with
  | some x,some y=>bif (eA y).blt fO then some [zs (x - y)] else none
  | _,_=>none
 | _=>none
theorem HH:Ab.Spec base.P 157 wX:=Ab.Spec.bN (C:=CC LT5) (cP agD) fun args rs h=>by
 unfold wX at h
 split at h
 ·split at h
  ·rename_i x y ex ey
   obtain⟨rfl,hx⟩:=dk ex
   obtain⟨rfl,hy⟩:=dk ey
   cases hb:(eA y).blt fO with
   | false=>rw[hb] at h;cases h
   | true =>
    rw[hb] at h
    simp only[cond_true,OiE] at h
    subst h
    rw[Nat.blt_eq] at hb
    have hn:=Zm.neg hy hb
    have g1:az LT5 (runK (CC LT5) 1) 120 [zs y] (zs (-y)):=fun dr hp=>bu Dy aag _ dr hp _ [zs (-y)] rfl rfl (by simp only[nG,cO y hy])
    have g2:az LT5 (runK (CC LT5) 1) 66 [zs x,zs (-y)] (zs (x + -y)):=fun dr hp=>bu so Ub _ dr hp _ [zs (x + -y)] rfl rfl (by simp only[iE,cO x hx,cO (-y) hn])
    obtain⟨st,x1,x2⟩:=HI LT5 (runK (CC LT5) 1) 1 _ _ _ _ g1 g2
    exact⟨2,_,_,_,_,_,aV CM rfl x1 x2,rfl,Wk.refl rfl,trivial⟩
  ·cases h
 ·cases h
theorem aiD (a:Nat):((a:Int) == 47)=a.beq 47:=by
 cases h:a.beq 47 with
 | true=>rw[Nat.eq_of_beq_eq_true h];rfl
 | false =>
  rw[beq_eq_false_iff_ne]
  intro e
  have:a=47:=by omega
  subst this;cases h
theorem Mn (l:Ω)(k:Nat)(hp:Θ)(h:k≤l.length):dh TT hp 27 (.sc (.string (tx l))) (some (.sc (.int .i64 (k:Int)))) none none=some (.sc (.string (tx (l.drop k)))):=by
 simp only[dh,uAR,ef,dT,bnd,eD,bh]
 simp[tx,fm,h]
 rw[take_of_length_le (by simp)]
theorem Mo (l:Ω)(k:Nat)(hp:Θ)(h:k≤l.length):dh TT hp 27 (.sc (.string (tx l))) none (some (.sc (.int .i64 (k:Int)))) none=some (.sc (.string (tx (l.take k)))):=by
 simp only[dh,uAR,ef,dT,bnd,eD,bh]
 simp[tx,fm,h]
def qP:Code:=f65.body.getD .skip
def qQ:Code:=((f65.body).bind aA).getD .skip
theorem SA(l:Ω)(h24:fr.length=24)(h0:nth fr 0 = .sc (.string (tx l)))(h5:nth fr 5=iv l.length) :
  ∃ fr',af (CC L) run k qQ ⟨fr,[],[]⟩=some (.exit 0,⟨fr',[],[]⟩)∧fr'.length=24∧nth fr' 0 = .sc (.string (tx l)):=by
 simp only[iv] at h5
 simp[qQ,f65,dT,h24,h0,h5,uAR]
set_option maxHeartbeats 1000000 in
theorem Zp(l:Ω)(i:Nat)(hl:Bok l)(hi:i<l.length)(hi9:i<20000000)(hd:(at0 l i).beq 47=false)(h24:fr.length=24)(h0:nth fr 0 = .sc (.string (tx l)))(h5:nth fr 5=iv i) :
  ∃ fr',af (CC L) run k qQ ⟨fr,[],[]⟩=some (.normal,⟨fr',[],[]⟩)∧fr'.length=24∧nth fr' 0 = .sc (.string (tx l))∧nth fr' 5=iv (i+1):=by
 have hx:=fg uAR hl .i64 i hi
 have hb:=aiD (at0 l i)
 rw[hd] at hb
 have hw:=bA i (by omega)
 generalize at0 l i=b at *
 simp only[iv] at h5 ⊢
 simp[qQ,f65,dT,h24,h0,h5,uAR,hi,hx,hb,hw]
set_option maxHeartbeats 1000000 in
theorem Sy(l:Ω)(i:Nat)(hl:Bok l)(hi:i<l.length)(hi9:i<20000000)(hd:(at0 l i).beq 47=true)(h24:fr.length=24)(h0:nth fr 0 = .sc (.string (tx l)))(h5:nth fr 5=iv i) :
  ∃ fr',af (CC L) run k qQ ⟨fr,[],[]⟩=some (.ret,⟨fr',[],[]⟩)∧nth fr' 2 = .sc (.string (tx (l.take i)))∧nth fr' 3 = .sc (.string (tx (l.drop (i+1))))∧nth fr' 4 = .sc (.bool true):=by
 have hx:=fg uAR hl .i64 i hi
 have hb:=aiD (at0 l i)
 rw[hd] at hb
 have hw:=bA i (by omega)
 have h1:=Mo l i [] (by omega)
 have h2:dh TT [] 27 (.sc (.string (tx l))) (some (.sc (.int .i64 ((i:Int)+1)))) none none=some (.sc (.string (tx (l.drop (i+1))))):=Mn l (i+1) [] (by omega)
 generalize at0 l i=b at *
 simp only[iv] at h5
 simp[qQ,f65,dT,h24,h0,h5,uAR,hi,hx,hb,hw,h1,h2,number,FP.free]
theorem zK (L:Lst)(run:aw)(k:Nat)(l:Ω)(hl:Bok l)(h9:l.length<20000000):∀ (n i:Nat) (fr:Ψ),i+n=l.length→fr.length=24→nth fr 0 = .sc (.string (tx l))→nth fr 5=iv i →
  (fK (l.drop i)=none∧∃ fr',ch (af (CC L) run k qQ) (n+1) ⟨fr,[],[]⟩=some (.exit 0,⟨fr',[],[]⟩)∧fr'.length=24∧nth fr' 0 = .sc (.string (tx l))) ∨
  (∃ j fr',fK (l.drop i)=some j∧ch (af (CC L) run k qQ) (n+1) ⟨fr,[],[]⟩=some (.ret,⟨fr',[],[]⟩)∧nth fr' 2 = .sc (.string (tx (l.take (i+j))))∧nth fr' 3 = .sc (.string (tx (l.drop (i+j+1))))∧nth fr' 4 = .sc (.bool true))
 | 0,i,fr,hi,h24,h0,h5=>by
  have:i=l.length:=by omega
  subst this
  obtain⟨fr',g1,g2,g3⟩:=SA L run k fr l h24 h0 h5
  exact .inl ⟨by rw[drop_length];rfl,fr',bE g1,g2,g3⟩
 | n+1,i,fr,hi,h24,h0,h5=>by
  have hil:i<l.length:=by omega
  have hdr:fK (l.drop i)=bif (at0 l i).beq 47 then some 0 else (fK (l.drop (i+1))).map (· + 1):=by rw[drop_eq_getElem_cons hil,df hil];rfl
  cases hd:(at0 l i).beq 47 with
  | true =>
   obtain⟨fr1,g1,g2,g3,g4⟩:=Sy L run k fr l i hl hil (by omega) hd h24 h0 h5
   exact .inr ⟨0,fr1,by rw[hdr,hd];rfl,ez g1,g2,g3,g4⟩
  | false =>
   obtain⟨fr1,g1,g2,g3,g4⟩:=Zp L run k fr l i hl hil (by omega) hd h24 h0 h5
   rw[hdr,hd,cond_false,ca g1]
   rcases zK L run k l hl h9 n (i+1) fr1 (by omega) g2 g3 g4 with ⟨q1,q2⟩| ⟨j,fr',q1,q2,q3,q4,q5⟩
   ·exact .inl ⟨by rw[q1];rfl,q2⟩
   ·refine .inr ⟨j+1,fr',by rw[q1];rfl,q2,?_,?_,q5⟩
    ·rw[q3,show i+1+j=i+(j+1) by omega]
    ·rw[q4,show i+1+j+1=i+(j+1)+1 by omega]
def SB:Code:=seq1 (seq1 (ag 1 qP))
theorem wG:ag 1 qP = .seq (.seq SB (.block 0 (.loop qQ))) (ag 2 qP):=rfl
theorem Sz (L:Lst)(run:aw)(k:Nat)(s:ByteArray) :
  ∃ fr fr',ba (CC L) run k 1 qP ⟨entry 24 [.sc (.string s)],[],[]⟩=some ⟨fr,[],[]⟩∧af (CC L) run k SB ⟨fr,[],[]⟩=some (.normal,⟨fr',[],[]⟩)∧fr'.length=24∧nth fr' 0 = .sc (.string s)∧nth fr' 5=iv 0:=by
 obtain⟨e1,e2⟩:=cL 23 (.sc (.string s))
 generalize entry 24 [.sc (.string s)]=fr0 at *
 simp[SB,qP,f65,seq1,ba,e1,e2,iv]
theorem Nk(s:ByteArray)(h24:fr.length=24)(h0:nth fr 0 = .sc (.string s)) :
  ∃ st,af (CC L) run k (ag 2 qP) ⟨fr,[],[]⟩=some (.ret,st)∧bc TT st.fr st.hp f65.results.toList=some [.sc (.string s),.sc (.string (tx [49])),.sc (.bool false)]:=by
 have:(tx [49])={ data:=#[49] } := rfl
 rw[this]
 simp[qP,f65,h24,h0,bc]
def lM:Ψ→Option Ψ
 | [.sc (.string s)]=>bif (bys s).length.blt 20000000 then (match fK (bys s) with
  | some j=>some [.sc (.string (tx ((bys s).take j))),.sc (.string (tx ((bys s).drop (j+1)))),.sc (.bool true)]
  | none=>some [.sc (.string s),.sc (.string (tx [49])),.sc (.bool false)]) else none
 | _=>none
theorem oL:Ab.Spec base.P 65 lM:=Ab.Spec.bN (C:=CC []) (cP trivial) fun args rs h=>by
 unfold lM at h
 split at h
 ·rename_i s
  cases hb:(bys s).length.blt 20000000 with
  | false=>rw[hb] at h;cases h
  | true =>
   rw[hb] at h
   simp only[cond_true] at h
   rw[Nat.blt_eq] at hb
   have hok:=mO s
   obtain⟨f1,f2,a1,a2,a3,a4,a5⟩:=Sz [] (runK (CC []) 20000000) 20000000 s
   have a4':nth f2 0 = .sc (.string (tx (bys s))):=by rw[a4,iw]
   rcases zK [] (runK (CC []) 20000000) 20000000 (bys s) hok hb (bys s).length 0 f2 (by omega) a3 a4' a5 with ⟨q1,f3,q2,q3,q4⟩| ⟨j,f3,q1,q2,q3,q4,q5⟩
   ·rw[drop_zero] at q1
    rw[q1] at h
    simp only[OiE] at h
    subst h
    rw[iw] at q4
    obtain⟨st,x1,x2⟩:=Nk [] (runK (CC []) 20000000) 20000000 f3 s q3 q4
    have hx:af (CC []) (runK (CC []) 20000000) 20000000 qP ⟨entry 24 [.sc (.string s)],[],[]⟩=some (.ret,st):=by
     rw[aQ 1 a1,wG,ar ((ar a2).trans (bK (bT q2 (by omega))))]
     exact x1
    exact⟨20000001,_,_,_,_,_,aV sb rfl hx x2,rfl,Wk.refl rfl,Wk.refl rfl,Wk.refl rfl,trivial⟩
   ·rw[drop_zero] at q1
    rw[Nat.zero_add] at q3 q4
    rw[q1] at h
    simp only[OiE] at h
    subst h
    have hx:af (CC []) (runK (CC []) 20000000) 20000000 qP ⟨entry 24 [.sc (.string s)],[],[]⟩=some (.ret,⟨f3,[],[]⟩):=by
     rw[aQ 1 a1,wG]
     exact cj ((ar a2).trans (da (bT q2 (by omega))))
    have x2:bc TT f3 [] f65.results.toList=some [.sc (.string (tx ((bys s).take j))),.sc (.string (tx ((bys s).drop (j+1)))),.sc (.bool true)]:=by
     simp[f65,bc,q3,q4,q5]
    exact⟨20000001,_,_,_,_,_,aV sb rfl hx x2,rfl,Wk.refl rfl,Wk.refl rfl,Wk.refl rfl,trivial⟩
 ·cases h
def LT6:Lst:=[(156,iC),(118,kN),(119,nH),(115,ui),(116,mU),(113,ua),(114,ug),(66,iE),(157,wX)]
theorem agC:dt base.P LT6:=⟨tT,tY,wY,Ae,sE,zX,z8,nE,HH,trivial⟩
theorem EJ:bt LT6 156=fun a=>iC (aJ a):=rfl
theorem T9:bt LT6 118=fun a=>kN (aJ a):=rfl
theorem aaf:bt LT6 119=fun a=>nH (aJ a):=rfl
theorem aae:bt LT6 115=fun a=>ui (aJ a):=rfl
theorem EK:bt LT6 116=fun a=>mU (aJ a):=rfl
theorem N6:bt LT6 113=fun a=>ua (aJ a):=rfl
theorem aac:bt LT6 114=fun a=>ug (aJ a):=rfl
theorem Ua:bt LT6 66=fun a=>iE (aJ a):=rfl
theorem aad:bt LT6 157=fun a=>wX (aJ a):=rfl
theorem xO(x y:Nat)(hx:(T.aK x).length<10000000)(hy:(T.aK y).length<10000000):az LT6 run 118 [bx (T.aK x),bx (T.aK y)] (Ab.bJ (dZ x y)):=fun dr hp =>
 bu zp T9 run dr hp _ [Ab.bJ (dZ x y)] rfl (oh _ _) (by simp only[kN,dY (T.bS x) hx,dY (T.bS y) hy,qS])
theorem abx (run:aw)(x y:Nat)(hx:(T.aK x).length<10000000)(hy:(T.aK y).length<10000000)(h:y≤x):az LT6 run 119 [bx (T.aK x),bx (T.aK y)] (bx (T.aK (x - y))):=fun dr hp =>
 bu zq aaf run dr hp _ [bx (T.aK (x - y))] rfl (oh _ _) (by
  have h1:(T.aK y).length.ble (T.aK x).length=true:=by rw[Nat.ble_eq];exact T.cG h
  have h2:y.ble x=true:=by rw[Nat.ble_eq];exact h
  simp only[nH,dY (T.bS x) hx,dY (T.bS y) hy,T.bV,h1,h2,Bool.and_self,cond_true])
def sa (hp hp':Θ):Prop:=hp.length≤hp'.length∧∀ i,i<hp.length→aP hp' i=aP hp i
theorem sa.refl (hp:Θ):sa hp hp:=⟨Nat.le_refl _,fun _ _=>rfl⟩
theorem sa.trans {a b c:Θ}(h:sa a b)(h':sa b c):sa a c:=⟨Nat.le_trans h.1 h'.1,fun i hi=>by rw[h'.2 i (by have:=h.1;omega),h.2 i hi]⟩
theorem dw.grow {α:Type}{e:α→PV}{b:Nat}{hp hp':Θ}{l:List α}{p:PV}(h:dw e b hp l p)(g:sa hp hp'):dw e b hp' l p:=by
 obtain⟨hb,h⟩:=h
 refine⟨Nat.le_trans hb g.1,?_⟩
 rcases h with ⟨rfl,rfl⟩| ⟨id,m,h1,h2,rfl,h⟩
 ·exact .inl ⟨rfl,rfl⟩
 ·exact .inr ⟨id,m,h1,Nat.lt_of_lt_of_le h2 g.1,rfl,by rw[g.2 id h2];exact h⟩
theorem FZ (run:aw)(dr:Bool)(hp:Θ)(c:Ω)(r:Ω)(hc:T.Dok c)(hr:T.Dok r)(hl:c.length+r.length<9000000) :
  ∃ p' hp' fp hp'' fp',cw hp 1 (.imm c.length true (c.map iv)) r.length (r.map iv)=some (p',hp',fp)∧bU (CC LT6) run dr hp' 156 [p']=some (bx (T.aK (T.val (c++r))),hp'',fp')∧sa hp hp'':=by
 have htr:iC [mJ iv (c++r)]=some [bx (T.aK (T.val (c++r)))]:=by
  have h1:=hc.append hr
  have h2:=dY h1 (show (c++r).length<10000000 by simp;omega)
  simp only[bx] at h2
  simp only[iC,h2,T.eJ h1]
 by_cases h0:r.length=0
 ·have hr0:r=[]:=length_eq_zero_iff.1 h0
  subst hr0
  rw[append_nil] at htr ⊢
  refine⟨.imm c.length true (c.map iv),hp,FzZ,?_⟩
  have h4:bj (snap hp bp) [.imm c.length true (c.map iv)]=some ([.imm c.length true (c.map iv)],[]):=rfl
  have h3:(CC LT6).orc 156 [.imm c.length true (c.map iv)]=some [bx (T.aK (T.val c))]:=by
   show bt LT6 156 [.imm c.length true (c.map iv)]=_
   rw[EJ]
   simp only[aJ,iY.ack _ true c rfl]
   exact htr
  exact⟨_,_,by simp[cw],et lK h4 h3 rfl,sa.refl hp⟩
 ·have hO:jY iv hp.length (aL hp (c.map iv++r.map iv)) (c++r) (.own hp.length 1 0 (c.length+r.length) false):=by
   refine⟨by simp[aL],.inr ⟨hp.length,[],false,Nat.le_refl _,by simp[aL],by simp,nofun,?_⟩⟩
   rw[bz,if_pos rfl,append_nil,map_append]
  obtain⟨hp'',fp',h1,h2,h3⟩:=tn lK EJ run dr iY hO _ htr
  have hlen:(aL hp (c.map iv++r.map iv)).length≤hp''.length:=Nat.le_of_eq h3.symm
  refine⟨.own hp.length 1 0 (c.length+r.length) false,aL hp (c.map iv++r.map iv),⟨[],[hp.length],true,false⟩,hp'',fp',?_,h1,?_,?_⟩
  ·simp only[cw,if_neg h0]
   rw[if_pos ⟨Nat.le_trans (Nat.le_of_lt hl) (by decide),by simp⟩]
  ·exact Nat.le_trans (by simp[aL]) hlen
  ·intro i hi
   rw[h2 i hi,bz,if_neg (by omega)]
def dG:Code:=f121.body.getD .skip
def iQ:Code:=((f121.body).bind aA).getD .skip
def z7:Code:=(aA iQ).getD .skip
def ud:Code:=match bn iQ with | .seq (.block _ c) _=>c | c=>c
def QF (fr:Ψ)(b:PV)(p s:Bool)(x y:Ω)(q i:PV):Prop :=
 fr.length=164∧nth fr 1=b∧nth fr 12 = .sc (.bool p)∧nth fr 13=bx x∧nth fr 14 = .sc (.bool s)∧nth fr 15=bx y∧nth fr 17=q∧nth fr 19=i
theorem z6 (run:aw)(k:Nat)(fr:Ψ)(hp:Θ)(wr:Ω)(b:PV)(p s:Bool)(x y r:Ω)(q i n:PV)(z:Int)(hz:z<0)(hc:az LT6 run 118 [bx r,bx y] (Ab.bJ z))(h:QF fr b p s x y q i)(h18:nth fr 18=bx r)(h20:nth fr 20=n) :
  ∃ fr',af (CC LT6) run k z7 ⟨fr,hp,wr⟩=some (.exit 2,⟨fr',hp,wr⟩)∧QF fr' b p s x y q i∧nth fr' 18=bx r∧nth fr' 20=n:=by
 obtain⟨h0,h1,h12,h13,h14,h15,h17,h19⟩:=h
 unfold az at hc
 simp only[Ab.bJ] at hc
 have hz2 : ¬ (0≤z):=by omega
 simp[QF,z7,iQ,f121,aM,and_assoc,h0,h1,h12,h13,h14,h15,h17,h18,h19,h20,hc,hz2]
theorem Tk (run:aw)(k:Nat)(fr:Ψ)(hp:Θ)(wr:Ω)(b:PV)(p s:Bool)(x y r r':Ω)(q i:PV)(n:Nat)(z:Int)(hz:0≤z)(hn:n<1000000)(hc:az LT6 run 118 [bx r,bx y] (Ab.bJ z))(hc2:az LT6 run 119 [bx r,bx y] (bx r'))(h:QF fr b p s x y q i)(h18:nth fr 18=bx r)(h20:nth fr 20=iv n) :
  ∃ fr',af (CC LT6) run k z7 ⟨fr,hp,wr⟩=some (.normal,⟨fr',hp,wr⟩)∧QF fr' b p s x y q i∧nth fr' 18=bx r'∧nth fr' 20=iv (n+1):=by
 obtain⟨h0,h1,h12,h13,h14,h15,h17,h19⟩:=h
 unfold az at hc hc2
 simp only[Ab.bJ] at hc
 have hw:=bA n (by omega)
 simp only[iv] at h20 ⊢
 simp[QF,z7,iQ,f121,aM,and_assoc,h0,h1,h12,h13,h14,h15,h17,h18,h19,h20,hc,hc2,hz,hw]
theorem wV (run:aw)(k:Nat)(hp:Θ)(wr:Ω)(b:PV)(p s:Bool)(x:Ω)(q i:PV)(Y:Nat)(hY:0<Y)(hY9:(T.aK Y).length<9000000):∀ (d n R:Nat) (fr:Ψ),R<(d+1)*Y→n+d<1000000→(T.aK R).length<9000000→QF fr b p s x (T.aK Y) q i→nth fr 18=bx (T.aK R)→nth fr 20=iv n →
  ∃ fr',ch (af (CC LT6) run k z7) (d+1) ⟨fr,hp,wr⟩=some (.exit 2,⟨fr',hp,wr⟩)∧QF fr' b p s x (T.aK Y) q i∧nth fr' 18=bx (T.aK (R % Y))∧nth fr' 20=iv (n+R / Y)
 | 0,n,R,fr,hR,hn,hR9,h,h18,h20=>by
  have hlt:R<Y:=by omega
  obtain⟨fr',g1,g2,g3,g4⟩:=z6 run k fr hp wr b p s x (T.aK Y) _ q i _ _ (by unfold dZ;rw[if_pos hlt];omega) (xO run R Y (by omega) (by omega)) h h18 h20
  exact⟨fr',bE g1,g2,by rw[g3,Nat.mod_eq_of_lt hlt],by rw[g4,Nat.div_eq_of_lt hlt,Nat.add_zero]⟩
 | d+1,n,R,fr,hR,hn,hR9,h,h18,h20=>by
  by_cases hlt:R<Y
  ·obtain⟨fr',g1,g2,g3,g4⟩:=z6 run k fr hp wr b p s x (T.aK Y) _ q i _ _ (by unfold dZ;rw[if_pos hlt];omega) (xO run R Y (by omega) (by omega)) h h18 h20
   exact⟨fr',bE g1,g2,by rw[g3,Nat.mod_eq_of_lt hlt],by rw[g4,Nat.div_eq_of_lt hlt,Nat.add_zero]⟩
  ·have hge:Y≤R:=by omega
   have hz:0≤dZ R Y:=by
    unfold dZ
    rw[if_neg hlt]
    split <;> omega
   obtain⟨fr1,g1,g2,g3,g4⟩:=Tk run k fr hp wr b p s x (T.aK Y) _ _ q i n _ hz (by omega) (xO run R Y (by omega) (by omega)) (abx run R Y (by omega) (by omega) hge) h h18 h20
   have hl:(T.aK (R - Y)).length<9000000:=Nat.lt_of_le_of_lt (T.cG (by omega)) hR9
   obtain⟨fr',q1,q2,q3,q4⟩:=wV run k hp wr b p s x q i Y hY hY9 d (n+1) (R - Y) fr1 (by
    rw[Nat.add_mul (d+1) 1,Nat.one_mul] at hR
    omega) (by omega) hl g2 g3 g4
   refine⟨fr',by rw[ca g1];exact q1,q2,?_,?_⟩
   ·rw[q3,Nat.mod_eq_sub_mod hge]
   ·rw[q4,Nat.div_eq_sub_div hY hge]
    congr 1
    omega
theorem Ti:iQ = .seq (seq1 iQ) (.seq (.block 1 ud) (ag 2 iQ)):=rfl
theorem NG:ag 2 ud = .seq (.block 2 (.loop z7)) (ag 3 ud):=rfl
theorem NF (L:Lst)(run:aw)(k:Nat)(fr:Ψ)(hp:Θ)(wr:Ω)(b:PV)(p s:Bool)(x y r:Ω)(q:PV)(h:QF fr b p s x y q (.sc (.int .i64 (-1))))(h18:nth fr 18=bx r) :
  ∃ fr',af (CC L) run k iQ ⟨fr,hp,wr⟩=some (.exit 0,⟨fr',hp,wr⟩)∧QF fr' b p s x y q (.sc (.int .i64 (-1)))∧nth fr' 18=bx r:=by
 obtain⟨h0,h1,h12,h13,h14,h15,h17,h19⟩:=h
 simp[QF,iQ,f121,and_assoc,h0,h1,h12,h13,h14,h15,h17,h18,h19]
theorem Tj (L:Lst)(run:aw)(k:Nat)(fr:Ψ)(hp:Θ)(wr:Ω)(b:PV)(p s:Bool)(x y r:Ω)(q:PV)(i:Nat)(h:QF fr b p s x y q (iv i))(h18:nth fr 18=bx r) :
  ∃ fr',af (CC L) run k (seq1 iQ) ⟨fr,hp,wr⟩=some (.normal,⟨fr',hp,wr⟩)∧QF fr' b p s x y q (iv i)∧nth fr' 18=bx r:=by
 obtain⟨h0,h1,h12,h13,h14,h15,h17,h19⟩:=h
 simp only[iv] at h19
 simp[QF,iQ,f121,seq1,and_assoc,h0,h1,h12,h13,h14,h15,h17,h18,h19,iv]
set_option maxHeartbeats 1000000 in
theorem NH (run:aw)(k:Nat)(fr:Ψ)(hp:Θ)(wr:Ω)(b:PV)(p s:Bool)(x y r:Ω)(q:PV)(i:Nat)(hx:T.Dok x)(hr:T.Dok r)(hi:i<x.length)(hr9:r.length<8000000)(h:QF fr b p s x y q (iv i))(h18:nth fr 18=bx r) :
  ∃ fr' hp' wr',ba (CC LT6) run k 2 ud ⟨fr,hp,wr⟩=some ⟨fr',hp',wr'⟩∧QF fr' b p s x y q (iv i)∧nth fr' 18=bx (T.aK (at0 x i+10*T.val r))∧nth fr' 20=iv 0∧sa hp hp':=by
 obtain⟨h0,h1,h12,h13,h14,h15,h17,h19⟩:=h
 have hda:=fE x i hi
 have hd9:=T.cu hx i
 generalize at0 x i=d at *
 obtain⟨p',hp1,fp,hp2,fp',g1,g2,g3⟩:=FZ run false hp [d] r (T.Dok.nil.cons hd9) hr (by simp;omega)
 have e:T.val ([d]++r)=d+10*T.val r:=rfl
 rw[e] at g2
 have hlX:eM TT 24 1 [(0,.sc (.int .i64 (d:Int)))]=some (1,[iv d]):=lW d
 have hrd:fk hp 1 (bx r)=some (r.length,r.map iv,[]):=by simp[fk,bx,mJ]
 have g1':cw hp 1 (.imm 1 true [iv d]) r.length (r.map iv)=some (p',hp1,fp):=g1
 have hok:=iY.N4 r
 have e1:bx x = .imm x.length false (x.map iv):=rfl
 rw[e1] at h13
 simp only[iv] at h19 ⊢
 simp[QF,e1,ud,iQ,f121,bn,ba,soft,eu,aM,aU,bh,partOf,and_assoc,h0,h1,h12,h13,h14,h15,h17,h18,h19,hi,hda,aX,uL,sI,aI,bI,zI,bQ,hlX,hrd,hok,iL,g1',g2,g3]
theorem Hw (L:Lst)(run:aw)(k:Nat)(fr:Ψ)(hp:Θ)(wr:Ω)(b:PV)(p s:Bool)(x y r out:Ω)(q i:PV)(n:Nat)(ho9:out.length<20000000)(h:QF fr b p s x y q i)(h18:nth fr 18=bx r)(h20:nth fr 20=iv n)(hO:dw iv 0 hp out q) :
  ∃ fr' hp' wr' q',af (CC L) run k (ag 3 ud) ⟨fr,hp,wr⟩=some (.normal,⟨fr',hp',wr'⟩)∧QF fr' b p s x y q' i∧nth fr' 18=bx r∧dw iv 0 hp' (out++[n]) q':=by
 obtain⟨h0,h1,h12,h13,h14,h15,h17,h19⟩:=h
 obtain⟨q',hp',fp,g1,g2,-⟩:=hO.app n (by omega)
 have hlX:eM TT 24 1 [(0,.sc (.int .i64 (n:Int)))]=some (1,[iv n]):=lW n
 simp only[iv] at h20
 refine (fun ⟨fr',wr',h⟩=>⟨fr',hp',wr',q',h⟩:(∃ fr' wr',_)→_) ?_
 simp[QF,ud,iQ,f121,bn,soft,eu,and_assoc,bd,dW,h0,h1,h12,h13,h14,h15,h17,h18,h19,h20,uL,sI,bI,zI,bQ,hlX,kn,iL,g1,g2]
theorem Th (L:Lst)(run:aw)(k:Nat)(fr:Ψ)(hp:Θ)(wr:Ω)(b:PV)(p s:Bool)(x y r:Ω)(q:PV)(i:Nat)(hi:i<20000000)(h:QF fr b p s x y q (iv i))(h18:nth fr 18=bx r) :
  ∃ fr',af (CC L) run k (ag 2 iQ) ⟨fr,hp,wr⟩=some (.normal,⟨fr',hp,wr⟩)∧QF fr' b p s x y q (.sc (.int .i64 ((i:Int) - 1)))∧nth fr' 18=bx r:=by
 obtain⟨h0,h1,h12,h13,h14,h15,h17,h19⟩:=h
 have hw:=cM i (by omega)
 simp only[iv] at h19
 simp[QF,iQ,f121,and_assoc,h0,h1,h12,h13,h14,h15,h17,h18,h19,hw]
end Go.Proofs.YtjdmodeenbdfpaaGreat
end
