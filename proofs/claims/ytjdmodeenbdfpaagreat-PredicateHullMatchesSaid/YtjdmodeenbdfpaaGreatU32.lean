/- Contracts of numbers kept as digits in text, part 32; each lemma states its conditions. -/
import Derived.Test.YtjdmodeenbdfpaaGreatU31
set_option linter.unusedSimpArgs false
set_option linter.unusedVariables false
noncomputable section
namespace Go.Proofs.YtjdmodeenbdfpaaGreat
open Go Go.Ab List Tryz
attribute [local simp] FzZ aC aF aG aH aa ab ae af ag ah ai aj an aq ar au aw az bM ba bf bg dM seq1 uAI
variable(L:Lst)(run:av)(k:Nat)(fr:Ψ)(hp:Θ)(wr:Ω)
def fv:Code:=f68.body.getD .skip
def jt:Code:=((f68.body).bind az).getD .skip
def tW:Code:=(az jt).getD .skip
def tY:Code:=(az (ai 8 fv)).getD .skip
abbrev hpT (out:Ω):Θ:=[⟨.live,out.map iv⟩]
def TF (fr:Ψ)(p q:Bool)(x y:Ω)(n:Nat):Prop :=
 fr.length=120∧nth fr 9 = .sc (.bool p)∧nth fr 10=bA x∧nth fr 11 = .sc (.bool q)∧nth fr 12=bA y∧nth fr 13 = .own 0 1 0 n true
def iE:Code→Array Oper
 | .region _ ops _=>ops
 | _=>#[]
def Tj:Code:=match aO tW with | .seq (.block _ c) _=>c | c=>c
theorem aao:((Region.before (iE Tj))[21]?.getD 0).testBit 9=true:=by kernel_rfl
theorem NF(p q:Bool)(x y:Ω)(n i:Nat)(h:TF fr p q x y n)(h14:nth fr 14=iv i)(h15:nth fr 15=iv y.length) :
  ∃ fr',ae (CC L) run k tW ⟨fr,hp,wr⟩=some (.exit 2,⟨fr',hp,wr⟩)∧TF fr' p q x y n∧nth fr' 14=iv i:=by
 obtain⟨h0,h9,h10,h11,h12,h13⟩:=h
 simp only[iv] at h14 h15 ⊢
 simp[TF,tW,jt,f68,and_assoc,dN,h0,h9,h10,h11,h12,h13,h14,h15,uL]
set_option maxHeartbeats 4000000 in
theorem DM (L:Lst)(run:av)(kk:Nat)(fr:Ψ)(wr:Ω)(p q:Bool)(x y out:Ω)(n i k j s:Nat)(hx:T.Dok x)(hy:T.Dok y)(hi:i<x.length)(hk:k<y.length)(hj:j=i+k)(hjn:j<out.length)(hn:out.length=n)(hn9:n<30000000)
  (hb:at0 out j≤10000000000) (hs:s=at0 out j+at0 x i*at0 y k) (h:TF fr p q x y n) (h14:nth fr 14=iv i) (h15:nth fr 15=iv k) :
  ∃ fr' wr',ae (CC L) run kk tW ⟨fr,hpT out,wr⟩=some (.normal,⟨fr',hpT (out.set j s),wr'⟩)∧TF fr' p q x y n∧nth fr' 14=iv i∧nth fr' 15=iv (k+1):=by
 obtain⟨h0,h9,h10,h11,h12,h13⟩:=h
 subst hn
 have hd1:=fB x i hi
 have hd2:=fB y k hk
 have hd3:=fB out j hjn
 have hov:=nF (e:=iv) out j s hjn
 have a1:=T.cn hx i
 have a2:=T.cn hy k
 have hm:at0 x i*at0 y k≤9*9:=Nat.mul_le_mul (by omega) (by omega)
 generalize at0 x i=a at *
 generalize at0 y k=b at *
 generalize at0 out j=o at *
 obtain⟨t,ht⟩:∃ t,t=a*b:=⟨_,rfl⟩
 rw[← ht] at hs hm
 have hwj:=dx .i64 i k j hj (hiI (by omega))
 have hw1:=wrapM .i64 a b t ht (hiI (by omega))
 have hw2:=dx .i64 o t s hs (hiI (by omega))
 have hwk:=bE k (by omega)
 have hb1:=aao
 simp[-Nat.testBit_zero,Tj,tW,jt,f68,aO,iE] at hb1
 have e1:bA x = .imm x.length false (x.map iv):=rfl
 have e2:bA y = .imm y.length false (y.map iv):=rfl
 rw[e1] at h10;rw[e2] at h12
 simp only[iv] at h14 h15 ⊢
 simp[-Nat.testBit_zero,hb1,TF,e1,e2,tW,jt,f68,bc,bm,partOf,and_assoc,cR,bj,rP,dP,h0,h9,h10,h11,h12,h13,h14,h15,uL,sI,aI,aV,aX,cF,hi,hk,hjn,hd1,hd2,hd3,hov,hwj,hw1,hw2,hwk,qE s,number,FP.free,cC,FP.apart]
theorem wP (L:Lst)(run:av)(kk:Nat)(p q:Bool)(x y:Ω)(n i V0:Nat)(hx:T.Dok x)(hy:T.Dok y)(hi:i<x.length)(hn:n=x.length+y.length+1)(hn9:n<20000000) :
  ∀ (d k:Nat) (fr:Ψ) (wr out:Ω),k+d=y.length→out.length=n→TF fr p q x y n→nth fr 14=iv i→nth fr 15=iv k→(∀ m,at0 out m≤81*(i+1))→(∀ m,i+k≤m→at0 out m≤81*i)→T.val out=V0+at0 x i*T.val (y.take k)*10 ^ i →
  ∃ (fr':Ψ) (wr' out':Ω),cg (ae (CC L) run kk tW) (d+1) ⟨fr,hpT out,wr⟩=some (.exit 2,⟨fr',hpT out',wr'⟩)∧TF fr' p q x y n∧nth fr' 14=iv i∧out'.length=n∧(∀ m,at0 out' m≤81*(i+1))∧T.val out'=V0+at0 x i*T.val y*10 ^ i
 | 0,k,fr,wr,out,hk,ho,h,h14,h15,hB1,hB2,hv=>by
  have:k=y.length:=by omega
  subst this
  obtain⟨fr',g1,g2,g3⟩:=NF L run kk fr (hpT out) wr p q x y n i h h14 h15
  exact⟨fr',wr,out,br g1,g2,g3,ho,hB1,by rw[hv,take_length]⟩
 | d+1,k,fr,wr,out,hk,ho,h,h14,h15,hB1,hB2,hv=>by
  have a1:=T.cn hx i
  have a2:=T.cn hy k
  have hm:at0 x i*at0 y k≤9*9:=Nat.mul_le_mul (by omega) (by omega)
  have hjn:i+k<out.length:=by omega
  have hbo:=hB2 (i+k) (Nat.le_refl _)
  obtain⟨fr1,wr1,g1,g2,g3,g4⟩:=DM L run kk fr wr p q x y out n i k (i+k) _ hx hy hi (by omega) rfl hjn ho (by omega) (by omega) rfl h h14 h15
  have hset:∀ m,at0 (out.set (i+k) (at0 out (i+k)+at0 x i*at0 y k)) m=if m=i+k then at0 out (i+k)+at0 x i*at0 y k else at0 out m:=by
   intro m
   by_cases e:m=i+k
   ·subst e;rw[if_pos rfl,de (by simpa using hjn)];simp
   ·rw[if_neg e,gd (fun h=>e h.symm)]
  obtain⟨fr',wr',out',q1,q2⟩:=wP L run kk p q x y n i V0 hx hy hi hn hn9 d (k+1) fr1 wr1 (out.set (i+k) (at0 out (i+k)+at0 x i*at0 y k)) (by omega) (by rw[length_set];exact ho) g2 g3 g4
   (fun m=>by
    rw[hset]
    split
    ·omega
    ·exact hB1 m)
   (fun m hm=>by
    rw[hset,if_neg (by omega)]
    exact hB2 m (by omega))
   (by
    have h1:=T.qm out (i+k) (at0 out (i+k)+at0 x i*at0 y k) hjn
    rw[← de hjn] at h1
    rw[T.cu]
    have e1:(10:Nat) ^ (i+k)=10 ^ k*10 ^ i:=by rw[Nat.pow_add,Nat.mul_comm]
    rw[e1] at h1
    have e2:at0 x i*(T.val (y.take k)+at0 y k*10 ^ k)*10 ^ i=at0 x i*T.val (y.take k)*10 ^ i+at0 x i*at0 y k*(10 ^ k*10 ^ i):=by
     rw[Nat.mul_add,Nat.add_mul,← Nat.mul_assoc,Nat.mul_assoc (at0 x i*at0 y k)]
    rw[e2]
    rw[Nat.add_mul (at0 out (i+k))] at h1
    omega)
  exact⟨fr',wr',out',by rw[bU g1];exact q1,q2⟩
def DP:Code:=match aO jt with | .seq (.block _ c) _=>c | c=>c
def BL:Code:=seq1 DP
theorem Th:jt = .seq (seq1 jt) (.seq (.block 1 DP) (ai 2 jt)):=rfl
theorem Tk:DP = .seq BL (.block 2 (.loop tW)):=rfl
theorem ND(p q:Bool)(x y:Ω)(n:Nat)(h:TF fr p q x y n)(h14:nth fr 14=iv x.length) :
  ∃ fr',ae (CC L) run k jt ⟨fr,hp,wr⟩=some (.exit 0,⟨fr',hp,wr⟩)∧TF fr' p q x y n:=by
 obtain⟨h0,h9,h10,h11,h12,h13⟩:=h
 simp only[iv] at h14
 simp[TF,jt,f68,dN,h0,h9,h10,h11,h12,h13,h14,uL]
theorem Ti(p q:Bool)(x y:Ω)(n i:Nat)(hi:i<x.length)(h:TF fr p q x y n)(h14:nth fr 14=iv i) :
  ∃ fr' fr'',ae (CC L) run k (seq1 jt) ⟨fr,hp,wr⟩=some (.normal,⟨fr',hp,wr⟩)∧ae (CC L) run k BL ⟨fr',hp,wr⟩=some (.normal,⟨fr'',hp,wr⟩)∧TF fr'' p q x y n∧nth fr'' 14=iv i∧nth fr'' 15=iv 0:=by
 obtain⟨h0,h9,h10,h11,h12,h13⟩:=h
 simp only[iv] at h14 ⊢
 simp[TF,BL,DP,jt,f68,aO,and_assoc,dN,h0,h9,h10,h11,h12,h13,h14,uL,hi]
theorem Tg(p q:Bool)(x y:Ω)(n i:Nat)(hi:i<20000000)(h:TF fr p q x y n)(h14:nth fr 14=iv i) :
  ∃ fr',ae (CC L) run k (ai 2 jt) ⟨fr,hp,wr⟩=some (.normal,⟨fr',hp,wr⟩)∧TF fr' p q x y n∧nth fr' 14=iv (i+1):=by
 obtain⟨h0,h9,h10,h11,h12,h13⟩:=h
 have hw:=bE i (by omega)
 simp only[iv] at h14 ⊢
 simp[TF,jt,f68,and_assoc,h0,h9,h10,h11,h12,h13,h14,hw]
theorem wO (L:Lst)(run:av)(kk:Nat)(p q:Bool)(x y:Ω)(n:Nat)(hx:T.Dok x)(hy:T.Dok y)(hn:n=x.length+y.length+1)(hn9:n<20000000)(hkk:y.length+1≤kk) :
  ∀ (d i:Nat) (fr:Ψ) (wr out:Ω),i+d=x.length→out.length=n→TF fr p q x y n→nth fr 14=iv i→(∀ m,at0 out m≤81*i)→T.val out=T.val (x.take i)*T.val y →
  ∃ (fr':Ψ) (wr' out':Ω),cg (ae (CC L) run kk jt) (d+1) ⟨fr,hpT out,wr⟩=some (.exit 0,⟨fr',hpT out',wr'⟩)∧TF fr' p q x y n∧out'.length=n∧(∀ m,at0 out' m≤81*x.length)∧T.val out'=T.val x*T.val y
 | 0,i,fr,wr,out,hi,ho,h,h14,hB,hv=>by
  have:i=x.length:=by omega
  subst this
  obtain⟨fr',g1,g2⟩:=ND L run kk fr (hpT out) wr p q x y n h h14
  exact⟨fr',wr,out,br g1,g2,ho,hB,by rw[hv,take_length]⟩
 | d+1,i,fr,wr,out,hi,ho,h,h14,hB,hv=>by
  obtain⟨f1,f2,g1,g2,g3,g4,g5⟩:=Ti L run kk fr (hpT out) wr p q x y n i (by omega) h h14
  obtain⟨f3,wr3,out3,r1,r2,r3,r4,r5,r6⟩:=wP L run kk p q x y n i (T.val out) hx hy (by omega) hn hn9 y.length 0 f2 wr out (by omega) ho g3 g4 g5 (fun m=>by have:=hB m;omega) (fun m _=>hB m) (by simp[T.val])
  obtain⟨f4,s1,s2,s3⟩:=Tg L run kk f3 (hpT out3) wr3 p q x y n i (by omega) r2 r3
  have hB1:ae (CC L) run kk DP ⟨f1,hpT out,wr⟩=some (.normal,⟨f3,hpT out3,wr3⟩):=by
   rw[Tk,ao g2,bD (bG r1 hkk)]
  have hO1:ae (CC L) run kk jt ⟨fr,hpT out,wr⟩=some (.normal,⟨f4,hpT out3,wr3⟩):=by
   rw[Th,ao g1,ao (fC hB1)]
   exact s1
  obtain⟨fr',wr',out',q1,q2⟩:=wO L run kk p q x y n hx hy hn hn9 hkk d (i+1) f4 wr3 out3 (by omega) r4 s2 s3 r5 (by
   rw[r6,hv,T.cu,Nat.add_mul]
   rw[Nat.mul_assoc (at0 x i),Nat.mul_assoc (at0 x i),Nat.mul_comm (T.val y)])
  exact⟨fr',wr',out',by rw[bU hO1];exact q1,q2⟩
def HI:Code:=match aO tY with | .seq (.block _ c) _=>c | c=>c
theorem aan:((Region.before (iE (seq1 HI)))[15]?.getD 0).testBit 7=true:=by kernel_rfl
theorem aam:((Region.before (iE (seq1 HI)))[15]?.getD 0).testBit 11=true:=by kernel_rfl
theorem NG(p q:Bool)(x y:Ω)(n i:Nat)(hi:i+1=n)(hn9:n<20000000)(h:TF fr p q x y n)(h16:nth fr 16=iv i) :
  ∃ fr',ae (CC L) run k tY ⟨fr,hp,wr⟩=some (.exit 4,⟨fr',hp,wr⟩)∧TF fr' p q x y n:=by
 obtain⟨h0,h9,h10,h11,h12,h13⟩:=h
 have hw:=bE i (by omega)
 subst hi
 simp only[iv] at h16
 simp[TF,tY,fv,f68,jb,h0,h9,h10,h11,h12,h13,h16,uL,hw]
set_option maxHeartbeats 4000000 in
theorem DN (L:Lst)(run:av)(kk:Nat)(fr:Ψ)(wr:Ω)(p q:Bool)(x y out:Ω)(n i j s r:Nat)(hj:j=i+1)(hjn:j<out.length)(hn:out.length=n)(hn9:n<20000000)
  (hb:at0 out i≤10000000000) (hb2:at0 out j≤10000000000) (hs:s=at0 out j+at0 out i / 10) (hr:r=at0 out i % 10) (h:TF fr p q x y n) (h16:nth fr 16=iv i) :
  ∃ fr' wr',ae (CC L) run kk tY ⟨fr,hpT out,wr⟩=some (.normal,⟨fr',hpT ((out.set j s).set i r),wr'⟩)∧TF fr' p q x y n∧nth fr' 16=iv (i+1):=by
 obtain⟨h0,h9,h10,h11,h12,h13⟩:=h
 subst hn
 have hin:i<out.length:=by omega
 have hlt:(i:Int)+1<(out.length:Int):=by omega
 have hin2:i<(out.set j s).length:=by rw[length_set];exact hin
 have hd1:=fB out i hin
 have hd2:=fB out j hjn
 have hd3:=fB (out.set j s) i hin2
 rw[gd (by omega)] at hd3
 have hov:=nF (e:=iv) out j s hjn
 have hov2:=nF (e:=iv) (out.set j s) i r hin2
 generalize at0 out i=a at *
 generalize at0 out j=b at *
 obtain⟨t,ht⟩:∃ t,t=a / 10:=⟨_,rfl⟩
 rw[← ht] at hs
 have ht9:t≤10000000000:=by rw[ht];exact Nat.le_trans (Nat.div_le_self _ _) hb
 have hw1:bB .i64 ((a:Int) / 10)=(t:Int):=T.jC .i64 a t ht (hiI (Nat.le_trans ht9 (by decide)))
 have hw3:=T.ll a r hr
 clear ht hr
 have hwj:bB .i64 ((i:Int)+1)=(j:Int):=by rw[bE i (by omega)];omega
 have hw2:=dx .i64 b t s hs (hiI (by omega))
 have hb1:=aan
 have hb3:=aam
 simp[-Nat.testBit_zero,HI,tY,fv,f68,aO,iE] at hb1 hb3
 have hji:nth fr 16=iv i:=h16
 simp only[iv] at h16 ⊢
 subst hj
 have hjI:((i+1:Nat):Int)=(i:Int)+1:=by omega
 rw[hjI] at hwj
 simp[-Nat.testBit_zero,-map_set,hb1,hb3,TF,tY,fv,f68,bc,bm,je,partOf,and_assoc,jb,bj,rP,dP,h0,h9,h10,h11,h12,h13,h16,uL,sI,aI,aV,aX,cF,hin,hjn,hlt,hd1,hd2,hd3,hov,hov2,hwj,hw1,hw2,hw3,qE s,qE r,number,FP.free,cC,FP.apart]
theorem JB {l:Ω}(h:∀ m,m<l.length→at0 l m<10):T.Dok l:=fun x hx=>by
 obtain⟨i,hi,rfl⟩:=getElem_of_mem hx
 have:=h i hi
 rwa [de hi] at this
theorem Po {out:Ω}{i a b:Nat}(hj:i+1<out.length)(ha:a=at0 out i)(hb:b=at0 out (i+1)) :
  T.val ((out.set (i+1) (b+a / 10)).set i (a % 10))=T.val out:=by
 have h1:=T.qm out (i+1) (b+a / 10) hj
 have h2:=T.qm (out.set (i+1) (b+a / 10)) i (a % 10) (by rw[length_set];omega)
 rw[← de hj,← hb] at h1
 rw[← de (show i<(out.set (i+1) (b+a / 10)).length by rw[length_set];omega),gd (by omega),← ha] at h2
 have h3:a=10*(a / 10)+a % 10:=(Nat.div_add_mod a 10).symm
 rw[Nat.pow_succ] at h1
 generalize a / 10=q at *
 generalize a % 10=r at *
 have h4:a*10 ^ i=10*q*10 ^ i+r*10 ^ i:=by rw[h3,Nat.add_mul]
 have h5:(b+q)*(10 ^ i*10)=b*(10 ^ i*10)+10*q*10 ^ i:=by
  rw[Nat.add_mul,Nat.mul_comm (10 ^ i) 10,← Nat.mul_assoc q,Nat.mul_comm q 10]
 omega
theorem wQ (L:Lst)(run:av)(kk:Nat)(p q:Bool)(x y:Ω)(n W V:Nat)(hn9:n<20000000)(hW:W<20000000)(hV:V<10 ^ (n - 1)) :
  ∀ (d i:Nat) (fr:Ψ) (wr out:Ω),i+d+1=n→out.length=n→TF fr p q x y n→nth fr 16=iv i→(∀ m,m<i→at0 out m<10)→at0 out i≤90*W→(∀ m,i<m→at0 out m≤81*W)→T.val out=V →
  ∃ (fr':Ψ) (wr' out':Ω),cg (ae (CC L) run kk tY) (d+1) ⟨fr,hpT out,wr⟩=some (.exit 4,⟨fr',hpT out',wr'⟩)∧TF fr' p q x y n∧out'.length=n∧T.Dok out'∧T.val out'=V
 | 0,i,fr,wr,out,hi,ho,h,h16,hB,hB1,hB2,hv=>by
  obtain⟨fr',g1,g2⟩:=NG L run kk fr (hpT out) wr p q x y n i (by omega) hn9 h h16
  refine⟨fr',wr,out,br g1,g2,ho,JB fun m hm => ?_,hv⟩
  by_cases hmi:m<i
  ·exact hB m hmi
  ·have e:m=i:=by omega
   subst e
   have h1:T.val out=T.val (out.take (m+1)):=by rw[T.cB _ _ (by omega)]
   rw[T.cu,hv] at h1
   have hne:n - 1=m:=by omega
   rw[hne] at hV
   rcases Nat.eq_zero_or_pos (at0 out m) with h0 | h0
   ·omega
   ·have:=Nat.mul_le_mul_right (10 ^ m) h0
    omega
 | d+1,i,fr,wr,out,hi,ho,h,h16,hB,hB1,hB2,hv=>by
  have hj1:=hB2 (i+1) (by omega)
  have hjn:i+1<out.length:=by omega
  obtain⟨fr1,wr1,g1,g2,g3⟩:=DN L run kk fr wr p q x y out n i (i+1) _ _ rfl hjn ho hn9 (by omega) (by omega) rfl rfl h h16
  have hat:∀ m,at0 ((out.set (i+1) (at0 out (i+1)+at0 out i / 10)).set i (at0 out i % 10)) m=if m=i then at0 out i % 10 else if m=i+1 then at0 out (i+1)+at0 out i / 10 else at0 out m:=by
   intro m
   by_cases e:m=i
   ·subst e
    rw[if_pos rfl,de (by simp;omega)]
    simp
   ·rw[if_neg e,gd (fun h=>e h.symm)]
    by_cases e2:m=i+1
    ·subst e2
     rw[if_pos rfl,de (by simp;omega)]
     simp
    ·rw[if_neg e2,gd (fun h=>e2 h.symm)]
  have hq:at0 out i / 10≤9*W:=Nat.div_le_of_le_mul (by omega)
  obtain⟨fr',wr',out',q1,q2⟩:=wQ L run kk p q x y n W V hn9 hW hV d (i+1) fr1 wr1 ((out.set (i+1) (at0 out (i+1)+at0 out i / 10)).set i (at0 out i % 10)) (by omega) (by simp[ho]) g2 g3
   (fun m hm=>by
    rw[hat]
    by_cases e:m=i
    ·rw[if_pos e];exact Nat.mod_lt _ (by omega)
    ·rw[if_neg e,if_neg (by omega)];exact hB m (by omega))
   (by
    rw[hat,if_neg (by omega),if_pos rfl]
    omega)
   (fun m hm=>by
    rw[hat,if_neg (by omega),if_neg (by omega)]
    exact hB2 m (by omega))
   (by rw[Po hjn rfl rfl];exact hv)
  exact⟨fr',wr',out',by rw[bU g1];exact q1,q2⟩
def HH:Code:=seq1 (seq1 (ai 7 fv))
def BK:Code:=seq1 (seq1 (ai 8 fv))
theorem Td:ai 7 fv = .seq (.seq HH (.block 0 (.loop jt))) (ai 8 fv):=rfl
theorem Tc:ai 8 fv = .seq (.seq BK (.block 4 (.loop tY))) (ai 9 fv):=rfl
set_option maxHeartbeats 1000000 in
theorem ae3(s t r:ByteArray)(u v w:Int)(g1:aA L run 113 [.sc (.string s)] (.tup [Ab.bJ u,.sc (.bool true)]))(g2:aA L run 113 [.sc (.string t)] (.tup [Ab.bJ v,.sc (.bool true)]))
  (hw:bB .i64 (u*v)=w) (g3:aA L run 114 [.sc (.int .i64 w)] (.sc (.string r))) :
  ∃ st,ae (CC L) run k fv ⟨entry 120 [.sc (.string s),.sc (.string t)],[],[]⟩=some (.ret,st)∧aY TT st.fr st.hp f68.results.toList=some [.sc (.string r)]:=by
 obtain⟨e1,e2,e3⟩:=cb 118 (.sc (.string s)) (.sc (.string t))
 generalize entry 120 [.sc (.string s),.sc (.string t)]=fr0 at *
 unfold aA at *
 simp only[Ab.bJ] at *
 simp[fv,f68,e1,e2,e3,aM,g1,g2,hw,g3,aY]
set_option maxHeartbeats 1000000 in
theorem Tf (L:Lst)(run:av)(k:Nat)(s t:ByteArray)(u v:Int)(f1 f2:Bool)(hf:(f1 && f2)=false)(g1:aA L run 113 [.sc (.string s)] (.tup [Ab.bJ u,.sc (.bool f1)]))(g2:aA L run 113 [.sc (.string t)] (.tup [Ab.bJ v,.sc (.bool f2)])) :
  ∃ fr,bh (CC L) run k 4 fv ⟨entry 120 [.sc (.string s),.sc (.string t)],[],[]⟩=some ⟨fr,[],[]⟩∧fr.length=120∧nth fr 0 = .sc (.string s)∧nth fr 1 = .sc (.string t):=by
 obtain⟨e1,e2,e3⟩:=cb 118 (.sc (.string s)) (.sc (.string t))
 generalize entry 120 [.sc (.string s),.sc (.string t)]=fr0 at *
 unfold aA at *
 simp only[Ab.bJ] at *
 cases f1 <;> cases f2 <;> simp only[Bool.and_true,Bool.and_false,Bool.and_self,Bool.true_eq_false] at hf <;> simp[fv,f68,bh,e1,e2,e3,aM,g1,g2,undef]
set_option maxHeartbeats 1000000 in
theorem aal(s t:ByteArray)(m n:Bool)(a b:Ω)(g1:aA L run 115 [.sc (.string s)] (.tup [.sc (.bool m),bA a]))(g2:aA L run 115 [.sc (.string t)] (.tup [.sc (.bool n),bA b]))
  (h120:fr.length=120) (h0:nth fr 0 = .sc (.string s)) (h1:nth fr 1 = .sc (.string t)) (hl:a.length+b.length<19000000) :
  ∃ fr' wr',bh (CC L) run k 3 (ai 4 fv) ⟨fr,[],[]⟩=some ⟨fr',hpT (List.replicate (a.length+b.length+1) 0),wr'⟩∧TF fr' m n a b (a.length+b.length+1):=by
 unfold aA at *
 obtain⟨w,hw⟩:∃ w,w=a.length+b.length:=⟨_,rfl⟩
 have hw1:=dx .i64 a.length b.length w hw (hiI (by omega))
 have hw2:=bE w (by omega)
 have hm:w+1≤cW:=Nat.le_trans (show w+1≤19000001 by omega) (by decide)
 rw[show hpT (List.replicate (a.length+b.length+1) 0)=[⟨.live,rep (w+1) [iv 0]⟩] by rw[aib,hw]]
 rw[← hw]
 simp[TF,fv,f68,bh,h120,h0,h1,aM,je,and_assoc,dN,g1,g2,uL,sI,bI,zI,hw1,hw2,hm,bd,bZ]
theorem aak(p q:Bool)(x y:Ω)(n:Nat)(h:TF fr p q x y n) :
  ∃ fr',ae (CC L) run k HH ⟨fr,hp,wr⟩=some (.normal,⟨fr',hp,wr⟩)∧TF fr' p q x y n∧nth fr' 14=iv 0:=by
 obtain⟨h0,h9,h10,h11,h12,h13⟩:=h
 simp[TF,HH,fv,f68,and_assoc,h0,h9,h10,h11,h12,h13,iv]
theorem Te(p q:Bool)(x y:Ω)(n:Nat)(h:TF fr p q x y n) :
  ∃ fr',ae (CC L) run k BK ⟨fr,hp,wr⟩=some (.normal,⟨fr',hp,wr⟩)∧TF fr' p q x y n∧nth fr' 16=iv 0:=by
 obtain⟨h0,h9,h10,h11,h12,h13⟩:=h
 simp[TF,BK,fv,f68,and_assoc,h0,h9,h10,h11,h12,h13,iv]
theorem NC (L:Lst)(run:av)(k:Nat)(fr:Ψ)(hp hp':Θ)(wr:Ω)(p q:Bool)(x y:Ω)(n:Nat)(r:PV)(fp:FP)(h:TF fr p q x y n)(hc:bS (CC L) run false hp 116 [.sc (.bool (p != q)),.own 0 1 0 n true]=some (r,hp',fp)) :
  ∃ st,ae (CC L) run k (ai 9 fv) ⟨fr,hp,wr⟩=some (.ret,st)∧aY TT st.fr st.hp f68.results.toList=some [r]:=by
 obtain⟨h0,h9,h10,h11,h12,h13⟩:=h
 cases p <;> cases q <;> simp only[bne_self_eq_false,Bool.bne_true,Bool.bne_false,Bool.not_false] at hc <;> simp[fv,f68,aM,dG,uB,h0,h9,h11,h13,hc,aY]
def tX:Ψ→Option Ψ
 | [p,q]=>match fL p,fL q with
  | some x,some y=>some [zs (x*y)]
  | _,_=>none
 | _=>none
theorem R3 (x y:Int):gD (bw x != bw y) (x.natAbs*y.natAbs)=x*y:=by
 rw[← Int.natAbs_mul,kt,cK,cK]
 have h:=Int.natAbs_mul x y
 rcases Int.lt_or_le x 0 with hx | hx <;> rcases Int.lt_or_le y 0 with hy | hy
 ·have h1:0≤x*y:=Int.mul_nonneg_of_nonpos_of_nonpos (by omega) (by omega)
  simp[hx,hy]
  omega
 ·have h1:x*y≤0:=Int.mul_nonpos_of_nonpos_of_nonneg (by omega) hy
  have h2 : ¬ y<0:=by omega
  simp[hx,h2]
  omega
 ·have h1:x*y≤0:=Int.mul_nonpos_of_nonneg_of_nonpos hx (by omega)
  have h2 : ¬ x<0:=by omega
  simp[hy,h2]
  omega
 ·have h1:0≤x*y:=Int.mul_nonneg hx hy
  have h2 : ¬ x<0:=by omega
  have h3 : ¬ y<0:=by omega
  simp[h2,h3]
  omega
theorem zX:Ab.Spec base.P 68 tX:=Ab.Spec.bL (C:=CC LT4) (cP yC) fun args rs h=>by
 unfold tX at h
 split at h
 ·split at h
  ·rename_i x y ex ey
   obtain⟨rfl,hx⟩:=dj ex
   obtain⟨rfl,hy⟩:=dj ey
   simp only[OiE] at h
   subst h
   have hx9:=Zm.LO hx
   have hy9:=Zm.LO hy
   generalize hK:(T.aJ x.natAbs).length+(T.aJ y.natAbs).length+2=K
   have gs1:=oU (runK (CC LT4) K) x hx
   have gs2:=oU (runK (CC LT4) K) y hy
   suffices hgo:∃ st,ae (CC LT4) (runK (CC LT4) K) K fv ⟨entry 120 [zs x,zs y],[],[]⟩=some (.ret,st)∧aY TT st.fr st.hp f68.results.toList=some [zs (x*y)] by
    obtain⟨st,x1,x2⟩:=hgo
    exact⟨K+1,_,_,_,_,_,aZ Cz rfl x1 x2,rfl,Wk.refl rfl,trivial⟩
   have rest:∀ (u v:Int) (f1 f2:Bool),(f1 && f2)=false→aA LT4 (runK (CC LT4) K) 113 [zs x] (.tup [Ab.bJ u,.sc (.bool f1)])→aA LT4 (runK (CC LT4) K) 113 [zs y] (.tup [Ab.bJ v,.sc (.bool f2)]) →
     ∃ st,ae (CC LT4) (runK (CC LT4) K) K fv ⟨entry 120 [zs x,zs y],[],[]⟩=some (.ret,st)∧aY TT st.fr st.hp f68.results.toList=some [zs (x*y)]:=by
    intro u v f1 f2 hf q1 q2
    obtain⟨fr1,a1,a2,a3,a4⟩:=Tf LT4 (runK (CC LT4) K) K _ _ u v f1 f2 hf q1 q2
    obtain⟨fr2,wr2,b1,b2⟩:=aal LT4 (runK (CC LT4) K) K fr1 _ _ _ _ _ _ (kI _ x hx) (kI _ y hy) a2 a3 a4 (by omega)
    obtain⟨fr3,c1,c2,c3⟩:=aak LT4 (runK (CC LT4) K) K fr2 (hpT (List.replicate ((T.aJ x.natAbs).length+(T.aJ y.natAbs).length+1) 0)) wr2 _ _ _ _ _ b2
    have hz:∀ m,at0 (List.replicate ((T.aJ x.natAbs).length+(T.aJ y.natAbs).length+1) 0) m=0:=by
     intro m
     unfold at0
     rw[getElem?_replicate]
     split <;> rfl
    obtain⟨fr4,wr4,out4,d1,d2,d3,d4,d5⟩:=wO LT4 (runK (CC LT4) K) K _ _ _ _ _ (T.bV x.natAbs) (T.bV y.natAbs) rfl (by omega) (by omega) _ 0 fr3 wr2 (List.replicate ((T.aJ x.natAbs).length+(T.aJ y.natAbs).length+1) 0) (Nat.zero_add _) (by simp) c2 c3 (fun m=>by rw[hz];omega) (by rw[T.oy];simp[T.val])
    obtain⟨fr5,e1,e2,e3⟩:=Te LT4 (runK (CC LT4) K) K fr4 (hpT out4) wr4 _ _ _ _ _ d2
    rw[T.bX,T.bX] at d5
    have hlt:x.natAbs*y.natAbs<10 ^ ((T.aJ x.natAbs).length+(T.aJ y.natAbs).length+1 - 1):=by
     rw[Nat.add_sub_cancel,Nat.pow_add]
     exact Nat.mul_lt_mul'' (T.fA _) (T.fA _)
    obtain⟨fr6,wr6,out6,f1,f2,f3,f4,f5⟩:=wQ LT4 (runK (CC LT4) K) K _ _ _ _ _ (T.aJ x.natAbs).length (x.natAbs*y.natAbs) (by omega) (by omega) hlt ((T.aJ x.natAbs).length+(T.aJ y.natAbs).length) 0 fr5 wr4 out4 (by omega) d3 e2 e3 (fun m hm=>by omega) (by have:=d4 0;omega) (fun m _=>d4 m) d5
    have hO:jR iv 0 (hpT out6) out6 (.own 0 1 0 ((T.aJ x.natAbs).length+(T.aJ y.natAbs).length+1) true):=⟨Nat.zero_le _,.inr ⟨0,[],true,Nat.le_refl _,by simp,by rw[f3],fun _=>rfl,by rw[append_nil];rfl⟩⟩
    have htx:=Bh (bw x != bw y) out6 f4 (by omega)
    rw[f5,R3] at htx
    obtain⟨hp7,fp,g1,-⟩:=o9 jU Ey (runK (CC LT4) K) false iX (bw x != bw y) hO _ htx
    obtain⟨st,x1,x2⟩:=NC LT4 (runK (CC LT4) K) K fr6 (hpT out6) hp7 wr6 _ _ _ _ _ _ fp f2 g1
    refine⟨st,?_,x2⟩
    have h1:ae (CC LT4) (runK (CC LT4) K) K fv ⟨entry 120 [zs x,zs y],[],[]⟩=ae (CC LT4) (runK (CC LT4) K) K (ai 4 fv) ⟨fr1,[],[]⟩:=aU 4 a1
    rw[h1,aU 3 b1,show ai 3 (ai 4 fv)=ai 7 fv from rfl,Td,ao ((ao c1).trans (bD (bG d1 (by omega)))),Tc,ao ((ao e1).trans (bD (bG f1 (by omega))))]
    exact x1
   cases h1:(ew x).ble 9 with
   | false =>
    rw[h1] at gs1
    cases h2:(ew y).ble 9 with
    | false=>rw[h2] at gs2;exact rest _ _ false false rfl gs1 gs2
    | true=>rw[h2] at gs2;exact rest _ _ false true rfl gs1 gs2
   | true =>
    rw[h1] at gs1
    cases h2:(ew y).ble 9 with
    | false=>rw[h2] at gs2;exact rest _ _ true false rfl gs1 gs2
    | true =>
     rw[h2] at gs2
     have b1:=zf h1
     have b2:=zf h2
     have hab:(x*y).natAbs≤999999999*999999999:=by
      rw[Int.natAbs_mul]
      exact Nat.mul_le_mul (by omega) (by omega)
     exact ae3 LT4 (runK (CC LT4) K) K _ _ _ x y (x*y) gs1 gs2 (fi _ (by omega) (by omega)) (Ly _ (x*y) (by omega) (by omega))
  ·cases h
 ·cases h
def ja:Code:=f111.body.getD .skip
def yQ:Code:=((f111.body).bind az).getD .skip
theorem aag(l:Ω)(h53:fr.length=53)(h3:nth fr 3 = .sc (.string (tx l)))(h4:nth fr 4=iv l.length) :
  ∃ fr',ae (CC L) run k yQ ⟨fr,[],[]⟩=some (.exit 0,⟨fr',[],[]⟩)∧fr'.length=53:=by
 simp only[iv] at h4
 simp[yQ,f111,h53,h3,h4]
set_option maxHeartbeats 1000000 in
theorem ae2(l:Ω)(i:Nat)(hl:Bok l)(hi:i<l.length)(hi9:i<20000000)(hd:lL (at0 l i)=true)(h53:fr.length=53)(h3:nth fr 3 = .sc (.string (tx l)))(h4:nth fr 4=iv i) :
  ∃ fr',ae (CC L) run k yQ ⟨fr,[],[]⟩=some (.normal,⟨fr',[],[]⟩)∧fr'.length=53∧nth fr' 3 = .sc (.string (tx l))∧nth fr' 4=iv (i+1):=by
 have hx:=eW uAI hl .i64 i hi
 rw[dE] at hd
 have hw:=bE i (by omega)
 generalize at0 l i=b at *
 have h1 : ¬ ((b:Int)<48):=by omega
 have h2 : ¬ ((57:Int)<b):=by omega
 simp only[iv] at h4 ⊢
 simp[yQ,f111,h53,h3,h4,hi,hx,h1,h2,hw]
set_option maxHeartbeats 1000000 in
theorem aah(l:Ω)(i:Nat)(hl:Bok l)(hi:i<l.length)(hd:lL (at0 l i)=false)(h53:fr.length=53)(h3:nth fr 3 = .sc (.string (tx l)))(h4:nth fr 4=iv i) :
  ∃ fr',ae (CC L) run k yQ ⟨fr,[],[]⟩=some (.ret,⟨fr',[],[]⟩)∧nth fr' 2 = .sc (.bool false):=by
 have hx:=eW uAI hl .i64 i hi
 generalize at0 l i=b at *
 have hd':(b:Int)<48∨(57:Int)<b:=by
  have : ¬ (48≤b∧b≤57):=fun h=>by rw[dE.2 h] at hd;cases hd
  omega
 simp only[iv] at h4
 by_cases h1:(b:Int)<48
 ·simp[yQ,f111,h53,h3,h4,hi,hx,h1]
 ·have h2:(57:Int)<b:=by omega
  simp[yQ,f111,h53,h3,h4,hi,hx,h1,h2]
theorem DH (L:Lst)(run:av)(k:Nat)(l:Ω)(hl:Bok l)(h9:l.length<20000000):∀ (n i:Nat) (fr:Ψ),i+n=l.length→fr.length=53→nth fr 3 = .sc (.string (tx l))→nth fr 4=iv i →
  (eH (l.drop i)=true∧∃ fr',cg (ae (CC L) run k yQ) (n+1) ⟨fr,[],[]⟩=some (.exit 0,⟨fr',[],[]⟩)∧fr'.length=53) ∨
  (eH (l.drop i)=false∧∃ fr',cg (ae (CC L) run k yQ) (n+1) ⟨fr,[],[]⟩=some (.ret,⟨fr',[],[]⟩)∧nth fr' 2 = .sc (.bool false))
 | 0,i,fr,hi,h53,h3,h4=>by
  have:i=l.length:=by omega
  subst this
  obtain⟨fr',g1,g2⟩:=aag L run k fr l h53 h3 h4
  exact .inl ⟨by rw[drop_length];rfl,fr',br g1,g2⟩
 | n+1,i,fr,hi,h53,h3,h4=>by
  have hil:i<l.length:=by omega
  have hdr:eH (l.drop i)=(lL (at0 l i) && eH (l.drop (i+1))):=by rw[drop_eq_getElem_cons hil,de hil];rfl
  cases hd:lL (at0 l i) with
  | true =>
   obtain⟨fr1,g1,g2,g3,g4⟩:=ae2 L run k fr l i hl hil (by omega) hd h53 h3 h4
   rw[hdr,hd,Bool.true_and,bU g1]
   exact DH L run k l hl h9 n (i+1) fr1 (by omega) g2 g3 g4
  | false =>
   obtain⟨fr1,g1,g2⟩:=aah L run k fr l i hl hil hd h53 h3 h4
   exact .inr ⟨by rw[hdr,hd];rfl,fr1,dD g1,g2⟩
def tT:Code:=seq1 (ai 2 ja)
def wN:Code:=seq1 (ai 3 ja)
def SX:Code:=seq1 (seq1 (ai 4 ja))
theorem vr:ai 2 ja = .seq tT (ai 3 ja):=rfl
theorem BG:ai 3 ja = .seq wN (ai 4 ja):=rfl
theorem KP:ai 4 ja = .seq (.seq SX (.block 0 (.loop yQ))) (ai 5 ja):=rfl
theorem aaf (L:Lst)(run:av)(k:Nat)(s:ByteArray) :
  ∃ fr,bh (CC L) run k 2 ja ⟨entry 53 [.sc (.string s)],[],[]⟩=some ⟨fr,[],[]⟩∧fr.length=53∧nth fr 3 = .sc (.string s):=by
 obtain⟨e1,e2⟩:=cV 52 (.sc (.string s))
 generalize entry 53 [.sc (.string s)]=fr0 at *
 simp[ja,f111,bh,e1,e2]
theorem Rk (l:Ω)(k:Nat)(hp:Θ)(h:k≤l.length):dH TT hp 94 (.sc (.string (tx l))) (some (.sc (.int .i64 (k:Int)))) none none=some (.sc (.string (tx (l.drop k)))):=by
 simp only[dH,uAI,dT,dM,bnd,fG,bm]
 simp[tx,fh,h]
 rw[take_of_length_le (by simp)]
theorem ajh (a:Nat):((a:Int) == 48)=a.beq 48:=by
 cases h:a.beq 48 with
 | true=>rw[Nat.eq_of_beq_eq_true h];rfl
 | false =>
  rw[beq_eq_false_iff_ne]
  intro e
  have:a=48:=by omega
  subst this;cases h
def kP:Ω→Option Ω
 | []=>some []
 | a::l=>bif a.beq 45 then (match l with
  | []=>some []
  | b::l=>bif b.beq 48 then none else some (b::l)) else some (a::l)
set_option maxHeartbeats 2000000 in
theorem ae1(l:Ω)(hl:Bok l)(h53:fr.length=53)(h3:nth fr 3 = .sc (.string (tx l))) :
  (kP l=none∧∃ fr',ae (CC L) run k tT ⟨fr,[],[]⟩=some (.ret,⟨fr',[],[]⟩)∧nth fr' 2 = .sc (.bool false)) ∨
  ∃ l' fr',kP l=some l'∧ae (CC L) run k tT ⟨fr,[],[]⟩=some (.normal,⟨fr',[],[]⟩)∧fr'.length=53∧nth fr' 3 = .sc (.string (tx l')):=by
 cases l with
 | nil =>
  refine .inr ⟨[],?_⟩
  simp[kP,tT,ja,f111,h53,h3,undef]
 | cons a l =>
  have hx:ic TT 94 (.sc (.string (tx (a::l)))) (.sc (.int .i64 0))=some (.sc (.int .u8 (a:Int))):=eW uAI hl .i64 0 (by simp)
  have hp:(0:Int)<(l.length:Int)+1:=by omega
  have hb:=agj a
  have hs:dH TT [] 94 (.sc (.string (tx (a::l)))) (some (.sc (.int .i64 1))) none none=some (.sc (.string (tx l))):=Rk (a::l) 1 [] (by simp)
  cases h:a.beq 45 with
  | false =>
   rw[h] at hb
   refine .inr ⟨a::l,?_⟩
   simp[kP,h,tT,ja,f111,h53,h3,hx,hp,hb]
  | true =>
   rw[h] at hb
   cases l with
   | nil =>
    refine .inr ⟨[],?_⟩
    simp[kP,h,tT,ja,f111,h53,h3,hx,hb,hs,undef]
   | cons b l =>
    have hl2:Bok (b::l):=fun x hx=>hl x (mem_cons_of_mem _ hx)
    have hx2:ic TT 94 (.sc (.string (tx (b::l)))) (.sc (.int .i64 0))=some (.sc (.int .u8 (b:Int))):=eW uAI hl2 .i64 0 (by simp)
    have hp2:(0:Int)<(l.length:Int)+1:=by omega
    have hp3:(0:Int)<(l.length:Int)+1+1:=by omega
    have hb2:=ajh b
    cases h2:b.beq 48 with
    | true =>
     rw[h2] at hb2
     refine .inl ⟨by simp[kP,h,h2],?_⟩
     simp[tT,ja,f111,h53,h3,hx,hb,hs,hx2,hp2,hp3,hb2]
    | false =>
     rw[h2] at hb2
     refine .inr ⟨b::l,?_⟩
     simp[kP,h,h2,tT,ja,f111,h53,h3,hx,hb,hs,hx2,hp2,hp3,hb2]
def vHd:Ω→Bool
 | []=>true
 | [_]=>false
 | a::_::_=>a.beq 48
set_option maxHeartbeats 2000000 in
theorem ae0(l:Ω)(hl:Bok l)(h53:fr.length=53)(h3:nth fr 3 = .sc (.string (tx l))) :
  (vHd l=true∧∃ fr',ae (CC L) run k wN ⟨fr,[],[]⟩=some (.ret,⟨fr',[],[]⟩)∧nth fr' 2 = .sc (.bool false)) ∨
  (vHd l=false∧∃ fr',ae (CC L) run k wN ⟨fr,[],[]⟩=some (.normal,⟨fr',[],[]⟩)∧fr'.length=53∧nth fr' 3 = .sc (.string (tx l))):=by
 cases l with
 | nil =>
  refine .inl ⟨rfl,?_⟩
  simp[wN,ja,f111,h53,h3,undef]
 | cons a l =>
  have hx:ic TT 94 (.sc (.string (tx (a::l)))) (.sc (.int .i64 0))=some (.sc (.int .u8 (a:Int))):=eW uAI hl .i64 0 (by simp)
  have hb:=ajh a
  cases l with
  | nil =>
   refine .inr ⟨rfl,?_⟩
   cases h:a.beq 48 <;> rw[h] at hb <;> simp[wN,ja,f111,h53,h3,hx,hb,undef]
  | cons b l =>
   have hne:((l.length:Int)+1+1 == 0)=false:=by rw[beq_eq_false_iff_ne];omega
   have hne2 : ¬ ((l.length:Int)+1+1=0):=by omega
   have hlt:(1:Int)<(l.length:Int)+1+1:=by omega
   cases h:a.beq 48 with
   | true =>
    rw[h] at hb
    refine .inl ⟨h,?_⟩
    simp[wN,ja,f111,h53,h3,hx,hb,hne,hlt]
   | false =>
    rw[h] at hb
    refine .inr ⟨h,?_⟩
    simp[wN,ja,f111,h53,h3,hx,hb,hne,undef]
theorem aeZ(h53:fr.length=53) :
  ∃ fr',ae (CC L) run k SX ⟨fr,[],[]⟩=some (.normal,⟨fr',[],[]⟩)∧fr'.length=53∧nth fr' 3=nth fr 3∧nth fr' 4=iv 0:=by
 simp[SX,ja,f111,h53,iv]
theorem SW(h53:fr.length=53) :
  ∃ st,ae (CC L) run k (ai 5 ja) ⟨fr,[],[]⟩=some (.ret,st)∧aY TT st.fr st.hp f111.results.toList=some [.sc (.bool true)]:=by
 simp[ja,f111,h53,aY]
def lh (l:Ω):Bool:=match kP l with
 | none=>false
 | some l' => !vHd l' && eH l'
def SY:Ψ→Option Ψ
 | [.sc (.string s)]=>bif (bys s).length.blt 20000000 then some [.sc (.bool (lh (bys s)))] else none
 | _=>none
theorem BH(h2:nth fr 2 = .sc (.bool false)):aY TT fr [] f111.results.toList=some [.sc (.bool false)]:=by
 simp[f111,aY,h2]
theorem YL {l l':Ω}(h:kP l=some l')(hl:Bok l):Bok l'∧l'.length≤l.length:=by
 cases l with
 | nil=>simp only[kP,OiE] at h;subst h;exact⟨hl,Nat.le_refl _⟩
 | cons a l =>
  cases ha:a.beq 45 with
  | false=>simp only[kP,ha,cond_false,OiE] at h;subst h;exact⟨hl,Nat.le_refl _⟩
  | true =>
   cases l with
   | nil=>simp only[kP,ha,cond_true,OiE] at h;subst h;exact⟨Bok.nil,Nat.zero_le _⟩
   | cons b l =>
    cases hb:b.beq 48 with
    | true=>simp[kP,ha,hb] at h
    | false =>
     simp only[kP,ha,hb,cond_true,cond_false,OiE] at h
     subst h
     exact⟨fun x hx=>hl x (mem_cons_of_mem _ hx),by simp⟩
theorem SV:Ab.Spec base.P 111 SY:=Ab.Spec.bL (C:=CC []) (cP trivial) fun args rs h=>by
 unfold SY at h
 split at h
 ·rename_i s
  cases hb:(bys s).length.blt 20000000 with
  | false=>rw[hb] at h;cases h
  | true =>
   rw[hb] at h
   simp only[cond_true,OiE] at h
   subst h
   rw[Nat.blt_eq] at hb
   have hok:=mK s
   obtain⟨f1,a1,a2,a3⟩:=aaf [] (runK (CC []) 20000000) 20000000 s
   rw[← im s] at a3
   rcases ae1 [] (runK (CC []) 20000000) 20000000 f1 (bys s) hok a2 a3 with ⟨hc,f2,b1,b2⟩| ⟨l',f2,hc,b1,b2,b3⟩
   ·have hv:lh (bys s)=false:=by rw[lh,hc]
    have hx:ae (CC []) (runK (CC []) 20000000) 20000000 ja ⟨entry 53 [.sc (.string s)],[],[]⟩=some (.ret,⟨f2,[],[]⟩):=by
     rw[aU 2 a1,vr,bK b1]
    rw[hv]
    exact⟨20000001,_,_,_,_,_,aZ jS rfl hx (BH f2 b2),rfl,Wk.refl rfl,trivial⟩
   ·obtain⟨hok',hlen⟩:=YL hc hok
    rcases ae0 [] (runK (CC []) 20000000) 20000000 f2 l' hok' b2 b3 with ⟨hh,f3,c1,c2⟩| ⟨hh,f3,c1,c2,c3⟩
    ·have hv:lh (bys s)=false:=by rw[lh,hc];simp[hh]
     have hx:ae (CC []) (runK (CC []) 20000000) 20000000 ja ⟨entry 53 [.sc (.string s)],[],[]⟩=some (.ret,⟨f3,[],[]⟩):=by
      rw[aU 2 a1,vr,ao b1,BG,bK c1]
     rw[hv]
     exact⟨20000001,_,_,_,_,_,aZ jS rfl hx (BH f3 c2),rfl,Wk.refl rfl,trivial⟩
    ·obtain⟨f4,d1,d2,d3,d4⟩:=aeZ [] (runK (CC []) 20000000) 20000000 f3 c2
     rcases DH [] (runK (CC []) 20000000) 20000000 l' hok' (by omega) l'.length 0 f4 (by omega) d2 (by rw[d3,c3]) d4 with ⟨hd,f5,e1,e2⟩| ⟨hd,f5,e1,e2⟩
     ·rw[drop_zero] at hd
      have hv:lh (bys s)=true:=by rw[lh,hc];simp[hh,hd]
      obtain⟨st,x1,x2⟩:=SW [] (runK (CC []) 20000000) 20000000 f5 e2
      have hx:ae (CC []) (runK (CC []) 20000000) 20000000 ja ⟨entry 53 [.sc (.string s)],[],[]⟩=some (.ret,st):=by
       rw[aU 2 a1,vr,ao b1,BG,ao c1,KP,ao ((ao d1).trans (bD (bG e1 (by omega))))]
       exact x1
      rw[hv]
      exact⟨20000001,_,_,_,_,_,aZ jS rfl hx x2,rfl,Wk.refl rfl,trivial⟩
     ·rw[drop_zero] at hd
      have hv:lh (bys s)=false:=by rw[lh,hc];simp[hd]
      have hx:ae (CC []) (runK (CC []) 20000000) 20000000 ja ⟨entry 53 [.sc (.string s)],[],[]⟩=some (.ret,⟨f5,[],[]⟩):=by
       rw[aU 2 a1,vr,ao b1,BG,ao c1,KP]
       exact bK ((ao d1).trans (cL (bG e1 (by omega))))
      rw[hv]
      exact⟨20000001,_,_,_,_,_,aZ jS rfl hx (BH f5 e2),rfl,Wk.refl rfl,trivial⟩
 ·cases h
end Go.Proofs.YtjdmodeenbdfpaaGreat
end
