/- Contracts of numbers kept as digits in text, part 29 of the proof; each lemma states its own conditions. -/
import Derived.Test.YtjdmodeenbdfpaaGreatT28
set_option linter.unusedSimpArgs false
set_option linter.unusedVariables false
noncomputable section
namespace Go.Proofs.YtjdmodeenbdfpaaGreat
open Go Go.Ab List Tryz
attribute [local simp] FzZ aA aC aF aG aH aa ab ae af ag ah ai aj an ao aq aw az bO bc bd bj dX seq1 uAI
variable(L:Lst)(run:ar)(k:Nat)(fr:List PV)(hp:List Blk)(wr:List Nat)
def fF:Code:=f68.body.getD .skip
def jF:Code:=((f68.body).bind aC).getD .skip
def tY:Code:=(aC jF).getD .skip
def ua:Code:=(aC (ah 8 fF)).getD .skip
abbrev hpT (out:List Nat):List Blk:=[⟨.live,out.map iv⟩]
def TF (fr:List PV)(p q:Bool)(x y:List Nat)(n:Nat):Prop :=
 fr.length=120∧nth fr 9 = .sc (.bool p)∧nth fr 10=bC x∧nth fr 11 = .sc (.bool q)∧nth fr 12=bC y∧nth fr 13 = .own 0 1 0 n true
def fx:Code→Array Oper
 | .region _ ops _=>ops
 | _=>#[]
def SL:Code:=match cw tY with | .seq (.block _ c) _=>c | c=>c
theorem ZH:((Region.before (fx SL))[21]?.getD 0).testBit 9=true:=by kernel_rfl
theorem Nw(p q:Bool)(x y:List Nat)(n i:Nat)(h:TF fr p q x y n)(h14:nth fr 14=iv i)(h15:nth fr 15=iv y.length) :
  ∃ fr',af (CC L) run k tY ⟨fr,hp,wr⟩=some (.exit 2,⟨fr',hp,wr⟩)∧TF fr' p q x y n∧nth fr' 14=iv i:=by
 obtain⟨h0,h9,h10,h11,h12,h13⟩:=h
 simp only[iv] at h14 h15 ⊢
 simp[TF,tY,jF,f68,and_assoc,dY,h0,h9,h10,h11,h12,h13,h14,h15,uL]
set_option maxHeartbeats 4000000 in
theorem DD (L:Lst)(run:ar)(kk:Nat)(fr:List PV)(wr:List Nat)(p q:Bool)(x y out:List Nat)(n i k j s:Nat)(hx:T.Dok x)(hy:T.Dok y)(hi:i<x.length)(hk:k<y.length)(hj:j=i+k)(hjn:j<out.length)(hn:out.length=n)(hn9:n<30000000)
  (hb:at0 out j≤10000000000) (hs:s=at0 out j+at0 x i*at0 y k) (h:TF fr p q x y n) (h14:nth fr 14=iv i) (h15:nth fr 15=iv k) :
  ∃ fr' wr',af (CC L) run kk tY ⟨fr,hpT out,wr⟩=some (.normal,⟨fr',hpT (out.set j s),wr'⟩)∧TF fr' p q x y n∧nth fr' 14=iv i∧nth fr' 15=iv (k+1):=by
 obtain⟨h0,h9,h10,h11,h12,h13⟩:=h
 subst hn
 have hd1:=fM x i hi
 have hd2:=fM y k hk
 have hd3:=fM out j hjn
 have hov:=kA (e:=iv) out j s hjn
 have a1:=T.cF hx i
 have a2:=T.cF hy k
 have hm:at0 x i*at0 y k≤9*9:=Nat.mul_le_mul (by omega) (by omega)
 generalize at0 x i=a at *
 generalize at0 y k=b at *
 generalize at0 out j=o at *
 obtain⟨t,ht⟩:∃ t,t=a*b:=⟨_,rfl⟩
 rw[← ht] at hs hm
 have hwj:=dD .i64 i k j hj (hiI (by omega))
 have hw1:=wrapM .i64 a b t ht (hiI (by omega))
 have hw2:=dD .i64 o t s hs (hiI (by omega))
 have hwk:=bH k (by omega)
 have hb1:=ZH
 simp[-Nat.testBit_zero,SL,tY,jF,f68,cw,fx] at hb1
 have e1:bC x = .imm x.length false (x.map iv):=rfl
 have e2:bC y = .imm y.length false (y.map iv):=rfl
 rw[e1] at h10;rw[e2] at h12
 simp only[iv] at h14 h15 ⊢
 simp[-Nat.testBit_zero,hb1,TF,e1,e2,tY,jF,f68,bg,bm,partOf,and_assoc,cX,bh,rR,dZ,h0,h9,h10,h11,h12,h13,h14,h15,uL,sI,aI,aV,aY,bZ,hi,hk,hjn,hd1,hd2,hd3,hov,hwj,hw1,hw2,hwk,qN s,number,FP.free,cH,FP.apart]
theorem wY (L:Lst)(run:ar)(kk:Nat)(p q:Bool)(x y:List Nat)(n i V0:Nat)(hx:T.Dok x)(hy:T.Dok y)(hi:i<x.length)(hn:n=x.length+y.length+1)(hn9:n<20000000) :
  ∀ (d k:Nat) (fr:List PV) (wr out:List Nat),k+d=y.length→out.length=n→TF fr p q x y n→nth fr 14=iv i→nth fr 15=iv k→(∀ m,at0 out m≤81*(i+1))→(∀ m,i+k≤m→at0 out m≤81*i)→T.val out=V0+at0 x i*T.val (y.take k)*10 ^ i →
  ∃ (fr':List PV) (wr' out':List Nat),cu (af (CC L) run kk tY) (d+1) ⟨fr,hpT out,wr⟩=some (.exit 2,⟨fr',hpT out',wr'⟩)∧TF fr' p q x y n∧nth fr' 14=iv i∧out'.length=n∧(∀ m,at0 out' m≤81*(i+1))∧T.val out'=V0+at0 x i*T.val y*10 ^ i
 | 0,k,fr,wr,out,hk,ho,h,h14,h15,hB1,hB2,hv=>by
  have:k=y.length:=by omega
  subst this
  obtain⟨fr',g1,g2,g3⟩:=Nw L run kk fr (hpT out) wr p q x y n i h h14 h15
  exact⟨fr',wr,out,bD g1,g2,g3,ho,hB1,by rw[hv,take_length]⟩
 | d+1,k,fr,wr,out,hk,ho,h,h14,h15,hB1,hB2,hv=>by
  have a1:=T.cF hx i
  have a2:=T.cF hy k
  have hm:at0 x i*at0 y k≤9*9:=Nat.mul_le_mul (by omega) (by omega)
  have hjn:i+k<out.length:=by omega
  have hbo:=hB2 (i+k) (Nat.le_refl _)
  obtain⟨fr1,wr1,g1,g2,g3,g4⟩:=DD L run kk fr wr p q x y out n i k (i+k) _ hx hy hi (by omega) rfl hjn ho (by omega) (by omega) rfl h h14 h15
  have hset:∀ m,at0 (out.set (i+k) (at0 out (i+k)+at0 x i*at0 y k)) m=if m=i+k then at0 out (i+k)+at0 x i*at0 y k else at0 out m:=by
   intro m
   by_cases e:m=i+k
   ·subst e;rw[if_pos rfl,dm (by simpa using hjn)];simp
   ·rw[if_neg e,gJ (fun h=>e h.symm)]
  obtain⟨fr',wr',out',q1,q2⟩:=wY L run kk p q x y n i V0 hx hy hi hn hn9 d (k+1) fr1 wr1 (out.set (i+k) (at0 out (i+k)+at0 x i*at0 y k)) (by omega) (by rw[length_set];exact ho) g2 g3 g4
   (fun m=>by
    rw[hset]
    split
    ·omega
    ·exact hB1 m)
   (fun m hm=>by
    rw[hset,if_neg (by omega)]
    exact hB2 m (by omega))
   (by
    have h1:=T.qB out (i+k) (at0 out (i+k)+at0 x i*at0 y k) hjn
    rw[← dm hjn] at h1
    rw[T.cI]
    have e1:(10:Nat) ^ (i+k)=10 ^ k*10 ^ i:=by rw[Nat.pow_add,Nat.mul_comm]
    rw[e1] at h1
    have e2:at0 x i*(T.val (y.take k)+at0 y k*10 ^ k)*10 ^ i=at0 x i*T.val (y.take k)*10 ^ i+at0 x i*at0 y k*(10 ^ k*10 ^ i):=by
     rw[Nat.mul_add,Nat.add_mul,← Nat.mul_assoc,Nat.mul_assoc (at0 x i*at0 y k)]
    rw[e2]
    rw[Nat.add_mul (at0 out (i+k))] at h1
    omega)
  exact⟨fr',wr',out',by rw[ct g1];exact q1,q2⟩
def DF:Code:=match cw jF with | .seq (.block _ c) _=>c | c=>c
def BG:Code:=seq1 DF
theorem SJ:jF = .seq (seq1 jF) (.seq (.block 1 DF) (ah 2 jF)):=rfl
theorem SM:DF = .seq BG (.block 2 (.loop tY)):=rfl
theorem Nv(p q:Bool)(x y:List Nat)(n:Nat)(h:TF fr p q x y n)(h14:nth fr 14=iv x.length) :
  ∃ fr',af (CC L) run k jF ⟨fr,hp,wr⟩=some (.exit 0,⟨fr',hp,wr⟩)∧TF fr' p q x y n:=by
 obtain⟨h0,h9,h10,h11,h12,h13⟩:=h
 simp only[iv] at h14
 simp[TF,jF,f68,dY,h0,h9,h10,h11,h12,h13,h14,uL]
theorem SK(p q:Bool)(x y:List Nat)(n i:Nat)(hi:i<x.length)(h:TF fr p q x y n)(h14:nth fr 14=iv i) :
  ∃ fr' fr'',af (CC L) run k (seq1 jF) ⟨fr,hp,wr⟩=some (.normal,⟨fr',hp,wr⟩)∧af (CC L) run k BG ⟨fr',hp,wr⟩=some (.normal,⟨fr'',hp,wr⟩)∧TF fr'' p q x y n∧nth fr'' 14=iv i∧nth fr'' 15=iv 0:=by
 obtain⟨h0,h9,h10,h11,h12,h13⟩:=h
 simp only[iv] at h14 ⊢
 simp[TF,BG,DF,jF,f68,cw,and_assoc,dY,h0,h9,h10,h11,h12,h13,h14,uL,hi]
theorem SI(p q:Bool)(x y:List Nat)(n i:Nat)(hi:i<20000000)(h:TF fr p q x y n)(h14:nth fr 14=iv i) :
  ∃ fr',af (CC L) run k (ah 2 jF) ⟨fr,hp,wr⟩=some (.normal,⟨fr',hp,wr⟩)∧TF fr' p q x y n∧nth fr' 14=iv (i+1):=by
 obtain⟨h0,h9,h10,h11,h12,h13⟩:=h
 have hw:=bH i (by omega)
 simp only[iv] at h14 ⊢
 simp[TF,jF,f68,and_assoc,h0,h9,h10,h11,h12,h13,h14,hw]
theorem wX (L:Lst)(run:ar)(kk:Nat)(p q:Bool)(x y:List Nat)(n:Nat)(hx:T.Dok x)(hy:T.Dok y)(hn:n=x.length+y.length+1)(hn9:n<20000000)(hkk:y.length+1≤kk) :
  ∀ (d i:Nat) (fr:List PV) (wr out:List Nat),i+d=x.length→out.length=n→TF fr p q x y n→nth fr 14=iv i→(∀ m,at0 out m≤81*i)→T.val out=T.val (x.take i)*T.val y →
  ∃ (fr':List PV) (wr' out':List Nat),cu (af (CC L) run kk jF) (d+1) ⟨fr,hpT out,wr⟩=some (.exit 0,⟨fr',hpT out',wr'⟩)∧TF fr' p q x y n∧out'.length=n∧(∀ m,at0 out' m≤81*x.length)∧T.val out'=T.val x*T.val y
 | 0,i,fr,wr,out,hi,ho,h,h14,hB,hv=>by
  have:i=x.length:=by omega
  subst this
  obtain⟨fr',g1,g2⟩:=Nv L run kk fr (hpT out) wr p q x y n h h14
  exact⟨fr',wr,out,bD g1,g2,ho,hB,by rw[hv,take_length]⟩
 | d+1,i,fr,wr,out,hi,ho,h,h14,hB,hv=>by
  obtain⟨f1,f2,g1,g2,g3,g4,g5⟩:=SK L run kk fr (hpT out) wr p q x y n i (by omega) h h14
  obtain⟨f3,wr3,out3,r1,r2,r3,r4,r5,r6⟩:=wY L run kk p q x y n i (T.val out) hx hy (by omega) hn hn9 y.length 0 f2 wr out (by omega) ho g3 g4 g5 (fun m=>by have:=hB m;omega) (fun m _=>hB m) (by simp[T.val])
  obtain⟨f4,s1,s2,s3⟩:=SI L run kk f3 (hpT out3) wr3 p q x y n i (by omega) r2 r3
  have hB1:af (CC L) run kk DF ⟨f1,hpT out,wr⟩=some (.normal,⟨f3,hpT out3,wr3⟩):=by
   rw[SM,av g2,bN (ca r1 hkk)]
  have hO1:af (CC L) run kk jF ⟨fr,hpT out,wr⟩=some (.normal,⟨f4,hpT out3,wr3⟩):=by
   rw[SJ,av g1,av (dH hB1)]
   exact s1
  obtain⟨fr',wr',out',q1,q2⟩:=wX L run kk p q x y n hx hy hn hn9 hkk d (i+1) f4 wr3 out3 (by omega) r4 s2 s3 r5 (by
   rw[r6,hv,T.cI,Nat.add_mul]
   rw[Nat.mul_assoc (at0 x i),Nat.mul_assoc (at0 x i),Nat.mul_comm (T.val y)])
  exact⟨fr',wr',out',by rw[ct hO1];exact q1,q2⟩
def Ho:Code:=match cw ua with | .seq (.block _ c) _=>c | c=>c
theorem ZG:((Region.before (fx (seq1 Ho)))[15]?.getD 0).testBit 7=true:=by kernel_rfl
theorem ZF:((Region.before (fx (seq1 Ho)))[15]?.getD 0).testBit 11=true:=by kernel_rfl
theorem Nx(p q:Bool)(x y:List Nat)(n i:Nat)(hi:i+1=n)(hn9:n<20000000)(h:TF fr p q x y n)(h16:nth fr 16=iv i) :
  ∃ fr',af (CC L) run k ua ⟨fr,hp,wr⟩=some (.exit 4,⟨fr',hp,wr⟩)∧TF fr' p q x y n:=by
 obtain⟨h0,h9,h10,h11,h12,h13⟩:=h
 have hw:=bH i (by omega)
 subst hi
 simp only[iv] at h16
 simp[TF,ua,fF,f68,gW,h0,h9,h10,h11,h12,h13,h16,uL,hw]
set_option maxHeartbeats 4000000 in
theorem DE (L:Lst)(run:ar)(kk:Nat)(fr:List PV)(wr:List Nat)(p q:Bool)(x y out:List Nat)(n i j s r:Nat)(hj:j=i+1)(hjn:j<out.length)(hn:out.length=n)(hn9:n<20000000)
  (hb:at0 out i≤10000000000) (hb2:at0 out j≤10000000000) (hs:s=at0 out j+at0 out i / 10) (hr:r=at0 out i % 10) (h:TF fr p q x y n) (h16:nth fr 16=iv i) :
  ∃ fr' wr',af (CC L) run kk ua ⟨fr,hpT out,wr⟩=some (.normal,⟨fr',hpT ((out.set j s).set i r),wr'⟩)∧TF fr' p q x y n∧nth fr' 16=iv (i+1):=by
 obtain⟨h0,h9,h10,h11,h12,h13⟩:=h
 subst hn
 have hin:i<out.length:=by omega
 have hlt:(i:Int)+1<(out.length:Int):=by omega
 have hin2:i<(out.set j s).length:=by rw[length_set];exact hin
 have hd1:=fM out i hin
 have hd2:=fM out j hjn
 have hd3:=fM (out.set j s) i hin2
 rw[gJ (by omega)] at hd3
 have hov:=kA (e:=iv) out j s hjn
 have hov2:=kA (e:=iv) (out.set j s) i r hin2
 generalize at0 out i=a at *
 generalize at0 out j=b at *
 obtain⟨t,ht⟩:∃ t,t=a / 10:=⟨_,rfl⟩
 rw[← ht] at hs
 have ht9:t≤10000000000:=by rw[ht];exact Nat.le_trans (Nat.div_le_self _ _) hb
 have hw1:bE .i64 ((a:Int) / 10)=(t:Int):=T.jQ .i64 a t ht (hiI (Nat.le_trans ht9 (by decide)))
 have hw3:=T.lO a r hr
 clear ht hr
 have hwj:bE .i64 ((i:Int)+1)=(j:Int):=by rw[bH i (by omega)];omega
 have hw2:=dD .i64 b t s hs (hiI (by omega))
 have hb1:=ZG
 have hb3:=ZF
 simp[-Nat.testBit_zero,Ho,ua,fF,f68,cw,fx] at hb1 hb3
 have hji:nth fr 16=iv i:=h16
 simp only[iv] at h16 ⊢
 subst hj
 have hjI:((i+1:Nat):Int)=(i:Int)+1:=by omega
 rw[hjI] at hwj
 simp[-Nat.testBit_zero,-map_set,hb1,hb3,TF,ua,fF,f68,bg,bm,jr,partOf,and_assoc,gW,bh,rR,dZ,h0,h9,h10,h11,h12,h13,h16,uL,sI,aI,aV,aY,bZ,hin,hjn,hlt,hd1,hd2,hd3,hov,hov2,hwj,hw1,hw2,hw3,qN s,qN r,number,FP.free,cH,FP.apart]
theorem Jb {l:List Nat}(h:∀ m,m<l.length→at0 l m<10):T.Dok l:=fun x hx=>by
 obtain⟨i,hi,rfl⟩:=getElem_of_mem hx
 have:=h i hi
 rwa [dm hi] at this
theorem Pb {out:List Nat}{i a b:Nat}(hj:i+1<out.length)(ha:a=at0 out i)(hb:b=at0 out (i+1)) :
  T.val ((out.set (i+1) (b+a / 10)).set i (a % 10))=T.val out:=by
 have h1:=T.qB out (i+1) (b+a / 10) hj
 have h2:=T.qB (out.set (i+1) (b+a / 10)) i (a % 10) (by rw[length_set];omega)
 rw[← dm hj,← hb] at h1
 rw[← dm (show i<(out.set (i+1) (b+a / 10)).length by rw[length_set];omega),gJ (by omega),← ha] at h2
 have h3:a=10*(a / 10)+a % 10:=(Nat.div_add_mod a 10).symm
 rw[Nat.pow_succ] at h1
 generalize a / 10=q at *
 generalize a % 10=r at *
 have h4:a*10 ^ i=10*q*10 ^ i+r*10 ^ i:=by rw[h3,Nat.add_mul]
 have h5:(b+q)*(10 ^ i*10)=b*(10 ^ i*10)+10*q*10 ^ i:=by
  rw[Nat.add_mul,Nat.mul_comm (10 ^ i) 10,← Nat.mul_assoc q,Nat.mul_comm q 10]
 omega
theorem wZ (L:Lst)(run:ar)(kk:Nat)(p q:Bool)(x y:List Nat)(n W V:Nat)(hn9:n<20000000)(hW:W<20000000)(hV:V<10 ^ (n - 1)) :
  ∀ (d i:Nat) (fr:List PV) (wr out:List Nat),i+d+1=n→out.length=n→TF fr p q x y n→nth fr 16=iv i→(∀ m,m<i→at0 out m<10)→at0 out i≤90*W→(∀ m,i<m→at0 out m≤81*W)→T.val out=V →
  ∃ (fr':List PV) (wr' out':List Nat),cu (af (CC L) run kk ua) (d+1) ⟨fr,hpT out,wr⟩=some (.exit 4,⟨fr',hpT out',wr'⟩)∧TF fr' p q x y n∧out'.length=n∧T.Dok out'∧T.val out'=V
 | 0,i,fr,wr,out,hi,ho,h,h16,hB,hB1,hB2,hv=>by
  obtain⟨fr',g1,g2⟩:=Nx L run kk fr (hpT out) wr p q x y n i (by omega) hn9 h h16
  refine⟨fr',wr,out,bD g1,g2,ho,Jb fun m hm => ?_,hv⟩
  by_cases hmi:m<i
  ·exact hB m hmi
  ·have e:m=i:=by omega
   subst e
   have h1:T.val out=T.val (out.take (m+1)):=by rw[T.cL _ _ (by omega)]
   rw[T.cI,hv] at h1
   have hne:n - 1=m:=by omega
   rw[hne] at hV
   rcases Nat.eq_zero_or_pos (at0 out m) with h0 | h0
   ·omega
   ·have:=Nat.mul_le_mul_right (10 ^ m) h0
    omega
 | d+1,i,fr,wr,out,hi,ho,h,h16,hB,hB1,hB2,hv=>by
  have hj1:=hB2 (i+1) (by omega)
  have hjn:i+1<out.length:=by omega
  obtain⟨fr1,wr1,g1,g2,g3⟩:=DE L run kk fr wr p q x y out n i (i+1) _ _ rfl hjn ho hn9 (by omega) (by omega) rfl rfl h h16
  have hat:∀ m,at0 ((out.set (i+1) (at0 out (i+1)+at0 out i / 10)).set i (at0 out i % 10)) m=if m=i then at0 out i % 10 else if m=i+1 then at0 out (i+1)+at0 out i / 10 else at0 out m:=by
   intro m
   by_cases e:m=i
   ·subst e
    rw[if_pos rfl,dm (by simp;omega)]
    simp
   ·rw[if_neg e,gJ (fun h=>e h.symm)]
    by_cases e2:m=i+1
    ·subst e2
     rw[if_pos rfl,dm (by simp;omega)]
     simp
    ·rw[if_neg e2,gJ (fun h=>e2 h.symm)]
  have hq:at0 out i / 10≤9*W:=Nat.div_le_of_le_mul (by omega)
  obtain⟨fr',wr',out',q1,q2⟩:=wZ L run kk p q x y n W V hn9 hW hV d (i+1) fr1 wr1 ((out.set (i+1) (at0 out (i+1)+at0 out i / 10)).set i (at0 out i % 10)) (by omega) (by simp[ho]) g2 g3
   (fun m hm=>by
    rw[hat]
    by_cases e:m=i
    ·rw[if_pos e];exact Nat.mod_lt _ (by omega)
    ·rw[if_neg e,if_neg (by omega)];exact hB m (by omega))
   (by
    rw[hat,if_neg (by omega),if_pos rfl]
    omega)
   (fun m hm=>by
    rw[hat,if_neg (by omega),if_neg (by omega)]
    exact hB2 m (by omega))
   (by rw[Pb hjn rfl rfl];exact hv)
  exact⟨fr',wr',out',by rw[ct g1];exact q1,q2⟩
def Hn:Code:=seq1 (seq1 (ah 7 fF))
def BF:Code:=seq1 (seq1 (ah 8 fF))
theorem SE:ah 7 fF = .seq (.seq Hn (.block 0 (.loop jF))) (ah 8 fF):=rfl
theorem SD:ah 8 fF = .seq (.seq BF (.block 4 (.loop ua))) (ah 9 fF):=rfl
set_option maxHeartbeats 1000000 in
theorem aet(s t r:ByteArray)(u v w:Int)(g1:au L run 113 [.sc (.string s)] (.tup [Ab.bz u,.sc (.bool true)]))(g2:au L run 113 [.sc (.string t)] (.tup [Ab.bz v,.sc (.bool true)]))
  (hw:bE .i64 (u*v)=w) (g3:au L run 114 [.sc (.int .i64 w)] (.sc (.string r))) :
  ∃ st,af (CC L) run k fF ⟨entry 120 [.sc (.string s),.sc (.string t)],[],[]⟩=some (.ret,st)∧aU TT st.fr st.hp f68.results.toList=some [.sc (.string r)]:=by
 obtain⟨e1,e2,e3⟩:=cn 118 (.sc (.string s)) (.sc (.string t))
 generalize entry 120 [.sc (.string s),.sc (.string t)]=fr0 at *
 unfold au at *
 simp only[Ab.bz] at *
 simp[fF,f68,e1,e2,e3,aL,g1,g2,hw,g3,aU]
set_option maxHeartbeats 1000000 in
theorem SH (L:Lst)(run:ar)(k:Nat)(s t:ByteArray)(u v:Int)(f1 f2:Bool)(hf:(f1 && f2)=false)(g1:au L run 113 [.sc (.string s)] (.tup [Ab.bz u,.sc (.bool f1)]))(g2:au L run 113 [.sc (.string t)] (.tup [Ab.bz v,.sc (.bool f2)])) :
  ∃ fr,aX (CC L) run k 4 fF ⟨entry 120 [.sc (.string s),.sc (.string t)],[],[]⟩=some ⟨fr,[],[]⟩∧fr.length=120∧nth fr 0 = .sc (.string s)∧nth fr 1 = .sc (.string t):=by
 obtain⟨e1,e2,e3⟩:=cn 118 (.sc (.string s)) (.sc (.string t))
 generalize entry 120 [.sc (.string s),.sc (.string t)]=fr0 at *
 unfold au at *
 simp only[Ab.bz] at *
 cases f1 <;> cases f2 <;> simp only[Bool.and_true,Bool.and_false,Bool.and_self,Bool.true_eq_false] at hf <;> simp[fF,f68,aX,e1,e2,e3,aL,g1,g2,undef]
set_option maxHeartbeats 1000000 in
theorem ZE(s t:ByteArray)(m n:Bool)(a b:List Nat)(g1:au L run 115 [.sc (.string s)] (.tup [.sc (.bool m),bC a]))(g2:au L run 115 [.sc (.string t)] (.tup [.sc (.bool n),bC b]))
  (h120:fr.length=120) (h0:nth fr 0 = .sc (.string s)) (h1:nth fr 1 = .sc (.string t)) (hl:a.length+b.length<19000000) :
  ∃ fr' wr',aX (CC L) run k 3 (ah 4 fF) ⟨fr,[],[]⟩=some ⟨fr',hpT (List.replicate (a.length+b.length+1) 0),wr'⟩∧TF fr' m n a b (a.length+b.length+1):=by
 unfold au at *
 obtain⟨w,hw⟩:∃ w,w=a.length+b.length:=⟨_,rfl⟩
 have hw1:=dD .i64 a.length b.length w hw (hiI (by omega))
 have hw2:=bH w (by omega)
 have hm:w+1≤cS:=Nat.le_trans (show w+1≤19000001 by omega) (by decide)
 rw[show hpT (List.replicate (a.length+b.length+1) 0)=[⟨.live,rep (w+1) [iv 0]⟩] by rw[ah2,hw]]
 rw[← hw]
 simp[TF,fF,f68,aX,h120,h0,h1,aL,jr,and_assoc,dY,g1,g2,uL,sI,bI,zI,hw1,hw2,hm,aM,cg]
theorem ZD(p q:Bool)(x y:List Nat)(n:Nat)(h:TF fr p q x y n) :
  ∃ fr',af (CC L) run k Hn ⟨fr,hp,wr⟩=some (.normal,⟨fr',hp,wr⟩)∧TF fr' p q x y n∧nth fr' 14=iv 0:=by
 obtain⟨h0,h9,h10,h11,h12,h13⟩:=h
 simp[TF,Hn,fF,f68,and_assoc,h0,h9,h10,h11,h12,h13,iv]
theorem SG(p q:Bool)(x y:List Nat)(n:Nat)(h:TF fr p q x y n) :
  ∃ fr',af (CC L) run k BF ⟨fr,hp,wr⟩=some (.normal,⟨fr',hp,wr⟩)∧TF fr' p q x y n∧nth fr' 16=iv 0:=by
 obtain⟨h0,h9,h10,h11,h12,h13⟩:=h
 simp[TF,BF,fF,f68,and_assoc,h0,h9,h10,h11,h12,h13,iv]
theorem Nu (L:Lst)(run:ar)(k:Nat)(fr:List PV)(hp hp':List Blk)(wr:List Nat)(p q:Bool)(x y:List Nat)(n:Nat)(r:PV)(fp:FP)(h:TF fr p q x y n)(hc:bX (CC L) run false hp 116 [.sc (.bool (p != q)),.own 0 1 0 n true]=some (r,hp',fp)) :
  ∃ st,af (CC L) run k (ah 9 fF) ⟨fr,hp,wr⟩=some (.ret,st)∧aU TT st.fr st.hp f68.results.toList=some [r]:=by
 obtain⟨h0,h9,h10,h11,h12,h13⟩:=h
 cases p <;> cases q <;> simp only[bne_self_eq_false,Bool.bne_true,Bool.bne_false,Bool.not_false] at hc <;> simp[fF,f68,aL,dT,uB,h0,h9,h11,h13,hc,aU]
def tZ:List PV→Option (List PV)
 | [p,q]=>match fT p,fT q with
  | some x,some y=>some [zs (x*y)]
  | _,_=>none
 | _=>none
theorem RL (x y:Int):ia (bA x != bA y) (x.natAbs*y.natAbs)=x*y:=by
 rw[← Int.natAbs_mul,kQ,cR,cR]
 have h:=Int.natAbs_mul x y
 rcases Int.lt_or_le x 0 with hx | hx <;> rcases Int.lt_or_le y 0 with hy | hy
 ·have h1:0≤x*y:=Int.mul_nonneg_of_nonpos_of_nonpos (by omega) (by omega)
  simp[hx,hy]
  omega
 ·have h1:x*y≤0:=Int.mul_nonpos_of_nonpos_of_nonneg (by omega) hy
  have h2 : ¬ y<0:=by omega
  simp[hx,h2]
  omega
 ·have h1:x*y≤0:=Int.mul_nonpos_of_nonneg_of_nonpos hx (by omega)
  have h2 : ¬ x<0:=by omega
  simp[hy,h2]
  omega
 ·have h1:0≤x*y:=Int.mul_nonneg hx hy
  have h2 : ¬ x<0:=by omega
  have h3 : ¬ y<0:=by omega
  simp[h2,h3]
  omega
theorem zY:Ab.Spec base.P 68 tZ:=Ab.Spec.bM (C:=CC LT4) (cP yy) fun args rs h=>by
 unfold tZ at h
 split at h
 ·split at h
  ·rename_i x y ex ey
   obtain⟨rfl,hx⟩:=dx ex
   obtain⟨rfl,hy⟩:=dx ey
   simp only[OiE] at h
   subst h
   have hx9:=Zm.Lq hx
   have hy9:=Zm.Lq hy
   generalize hK:(T.aK x.natAbs).length+(T.aK y.natAbs).length+2=K
   have gs1:=o9 (runK (CC LT4) K) x hx
   have gs2:=o9 (runK (CC LT4) K) y hy
   suffices hgo:∃ st,af (CC LT4) (runK (CC LT4) K) K fF ⟨entry 120 [zs x,zs y],[],[]⟩=some (.ret,st)∧aU TT st.fr st.hp f68.results.toList=some [zs (x*y)] by
    obtain⟨st,x1,x2⟩:=hgo
    exact⟨K+1,_,_,_,_,_,aP Cl rfl x1 x2,rfl,Wk.refl rfl,trivial⟩
   have rest:∀ (u v:Int) (f1 f2:Bool),(f1 && f2)=false→au LT4 (runK (CC LT4) K) 113 [zs x] (.tup [Ab.bz u,.sc (.bool f1)])→au LT4 (runK (CC LT4) K) 113 [zs y] (.tup [Ab.bz v,.sc (.bool f2)]) →
     ∃ st,af (CC LT4) (runK (CC LT4) K) K fF ⟨entry 120 [zs x,zs y],[],[]⟩=some (.ret,st)∧aU TT st.fr st.hp f68.results.toList=some [zs (x*y)]:=by
    intro u v f1 f2 hf q1 q2
    obtain⟨fr1,a1,a2,a3,a4⟩:=SH LT4 (runK (CC LT4) K) K _ _ u v f1 f2 hf q1 q2
    obtain⟨fr2,wr2,b1,b2⟩:=ZE LT4 (runK (CC LT4) K) K fr1 _ _ _ _ _ _ (ld _ x hx) (ld _ y hy) a2 a3 a4 (by omega)
    obtain⟨fr3,c1,c2,c3⟩:=ZD LT4 (runK (CC LT4) K) K fr2 (hpT (List.replicate ((T.aK x.natAbs).length+(T.aK y.natAbs).length+1) 0)) wr2 _ _ _ _ _ b2
    have hz:∀ m,at0 (List.replicate ((T.aK x.natAbs).length+(T.aK y.natAbs).length+1) 0) m=0:=by
     intro m
     unfold at0
     rw[getElem?_replicate]
     split <;> rfl
    obtain⟨fr4,wr4,out4,d1,d2,d3,d4,d5⟩:=wX LT4 (runK (CC LT4) K) K _ _ _ _ _ (T.cb x.natAbs) (T.cb y.natAbs) rfl (by omega) (by omega) _ 0 fr3 wr2 (List.replicate ((T.aK x.natAbs).length+(T.aK y.natAbs).length+1) 0) (Nat.zero_add _) (by simp) c2 c3 (fun m=>by rw[hz];omega) (by rw[T.oK];simp[T.val])
    obtain⟨fr5,e1,e2,e3⟩:=SG LT4 (runK (CC LT4) K) K fr4 (hpT out4) wr4 _ _ _ _ _ d2
    rw[T.cj,T.cj] at d5
    have hlt:x.natAbs*y.natAbs<10 ^ ((T.aK x.natAbs).length+(T.aK y.natAbs).length+1 - 1):=by
     rw[Nat.add_sub_cancel,Nat.pow_add]
     exact Nat.mul_lt_mul'' (T.fL _) (T.fL _)
    obtain⟨fr6,wr6,out6,f1,f2,f3,f4,f5⟩:=wZ LT4 (runK (CC LT4) K) K _ _ _ _ _ (T.aK x.natAbs).length (x.natAbs*y.natAbs) (by omega) (by omega) hlt ((T.aK x.natAbs).length+(T.aK y.natAbs).length) 0 fr5 wr4 out4 (by omega) d3 e2 e3 (fun m hm=>by omega) (by have:=d4 0;omega) (fun m _=>d4 m) d5
    have hO:kf iv 0 (hpT out6) out6 (.own 0 1 0 ((T.aK x.natAbs).length+(T.aK y.natAbs).length+1) true):=⟨Nat.zero_le _,.inr ⟨0,[],true,Nat.le_refl _,by simp,by rw[f3],fun _=>rfl,by rw[append_nil];rfl⟩⟩
    have htx:=Bb (bA x != bA y) out6 f4 (by omega)
    rw[f5,RL] at htx
    obtain⟨hp7,fp,g1,-⟩:=pg kj Ek (runK (CC LT4) K) false jh (bA x != bA y) hO _ htx
    obtain⟨st,x1,x2⟩:=Nu LT4 (runK (CC LT4) K) K fr6 (hpT out6) hp7 wr6 _ _ _ _ _ _ fp f2 g1
    refine⟨st,?_,x2⟩
    have h1:af (CC LT4) (runK (CC LT4) K) K fF ⟨entry 120 [zs x,zs y],[],[]⟩=af (CC LT4) (runK (CC LT4) K) K (ah 4 fF) ⟨fr1,[],[]⟩:=aO 4 a1
    rw[h1,aO 3 b1,show ah 3 (ah 4 fF)=ah 7 fF from rfl,SE,av ((av c1).trans (bN (ca d1 (by omega)))),SD,av ((av e1).trans (bN (ca f1 (by omega))))]
    exact x1
   cases h1:(eH x).ble 9 with
   | false =>
    rw[h1] at gs1
    cases h2:(eH y).ble 9 with
    | false=>rw[h2] at gs2;exact rest _ _ false false rfl gs1 gs2
    | true=>rw[h2] at gs2;exact rest _ _ false true rfl gs1 gs2
   | true =>
    rw[h1] at gs1
    cases h2:(eH y).ble 9 with
    | false=>rw[h2] at gs2;exact rest _ _ true false rfl gs1 gs2
    | true =>
     rw[h2] at gs2
     have b1:=ze h1
     have b2:=ze h2
     have hab:(x*y).natAbs≤999999999*999999999:=by
      rw[Int.natAbs_mul]
      exact Nat.mul_le_mul (by omega) (by omega)
     exact aet LT4 (runK (CC LT4) K) K _ _ _ x y (x*y) gs1 gs2 (fI _ (by omega) (by omega)) (La _ (x*y) (by omega) (by omega))
  ·cases h
 ·cases h
def jl:Code:=f111.body.getD .skip
def yO:Code:=((f111.body).bind aC).getD .skip
theorem Zz(l:List Nat)(h53:fr.length=53)(h3:nth fr 3 = .sc (.string (tx l)))(h4:nth fr 4=iv l.length) :
  ∃ fr',af (CC L) run k yO ⟨fr,[],[]⟩=some (.exit 0,⟨fr',[],[]⟩)∧fr'.length=53:=by
 simp only[iv] at h4
 simp[yO,f111,h53,h3,h4]
set_option maxHeartbeats 1000000 in
theorem aes(l:List Nat)(i:Nat)(hl:Bok l)(hi:i<l.length)(hi9:i<20000000)(hd:l7 (at0 l i)=true)(h53:fr.length=53)(h3:nth fr 3 = .sc (.string (tx l)))(h4:nth fr 4=iv i) :
  ∃ fr',af (CC L) run k yO ⟨fr,[],[]⟩=some (.normal,⟨fr',[],[]⟩)∧fr'.length=53∧nth fr' 3 = .sc (.string (tx l))∧nth fr' 4=iv (i+1):=by
 have hx:=fo uAI hl .i64 i hi
 rw[dN] at hd
 have hw:=bH i (by omega)
 generalize at0 l i=b at *
 have h1 : ¬ ((b:Int)<48):=by omega
 have h2 : ¬ ((57:Int)<b):=by omega
 simp only[iv] at h4 ⊢
 simp[yO,f111,h53,h3,h4,hi,hx,h1,h2,hw]
set_option maxHeartbeats 1000000 in
theorem ZA(l:List Nat)(i:Nat)(hl:Bok l)(hi:i<l.length)(hd:l7 (at0 l i)=false)(h53:fr.length=53)(h3:nth fr 3 = .sc (.string (tx l)))(h4:nth fr 4=iv i) :
  ∃ fr',af (CC L) run k yO ⟨fr,[],[]⟩=some (.ret,⟨fr',[],[]⟩)∧nth fr' 2 = .sc (.bool false):=by
 have hx:=fo uAI hl .i64 i hi
 generalize at0 l i=b at *
 have hd':(b:Int)<48∨(57:Int)<b:=by
  have : ¬ (48≤b∧b≤57):=fun h=>by rw[dN.2 h] at hd;cases hd
  omega
 simp only[iv] at h4
 by_cases h1:(b:Int)<48
 ·simp[yO,f111,h53,h3,h4,hi,hx,h1]
 ·have h2:(57:Int)<b:=by omega
  simp[yO,f111,h53,h3,h4,hi,hx,h1,h2]
theorem Dy (L:Lst)(run:ar)(k:Nat)(l:List Nat)(hl:Bok l)(h9:l.length<20000000):∀ (n i:Nat) (fr:List PV),i+n=l.length→fr.length=53→nth fr 3 = .sc (.string (tx l))→nth fr 4=iv i →
  (fc (l.drop i)=true∧∃ fr',cu (af (CC L) run k yO) (n+1) ⟨fr,[],[]⟩=some (.exit 0,⟨fr',[],[]⟩)∧fr'.length=53) ∨
  (fc (l.drop i)=false∧∃ fr',cu (af (CC L) run k yO) (n+1) ⟨fr,[],[]⟩=some (.ret,⟨fr',[],[]⟩)∧nth fr' 2 = .sc (.bool false))
 | 0,i,fr,hi,h53,h3,h4=>by
  have:i=l.length:=by omega
  subst this
  obtain⟨fr',g1,g2⟩:=Zz L run k fr l h53 h3 h4
  exact .inl ⟨by rw[drop_length];rfl,fr',bD g1,g2⟩
 | n+1,i,fr,hi,h53,h3,h4=>by
  have hil:i<l.length:=by omega
  have hdr:fc (l.drop i)=(l7 (at0 l i) && fc (l.drop (i+1))):=by rw[drop_eq_getElem_cons hil,dm hil];rfl
  cases hd:l7 (at0 l i) with
  | true =>
   obtain⟨fr1,g1,g2,g3,g4⟩:=aes L run k fr l i hl hil (by omega) hd h53 h3 h4
   rw[hdr,hd,Bool.true_and,ct g1]
   exact Dy L run k l hl h9 n (i+1) fr1 (by omega) g2 g3 g4
  | false =>
   obtain⟨fr1,g1,g2⟩:=ZA L run k fr l i hl hil hd h53 h3 h4
   exact .inr ⟨by rw[hdr,hd];rfl,fr1,eM g1,g2⟩
def tV:Code:=seq1 (ah 2 jl)
def wW:Code:=seq1 (ah 3 jl)
def Sy:Code:=seq1 (seq1 (ah 4 jl))
theorem vy:ah 2 jl = .seq tV (ah 3 jl):=rfl
theorem BB:ah 3 jl = .seq wW (ah 4 jl):=rfl
theorem Kz:ah 4 jl = .seq (.seq Sy (.block 0 (.loop yO))) (ah 5 jl):=rfl
theorem Zy (L:Lst)(run:ar)(k:Nat)(s:ByteArray) :
  ∃ fr,aX (CC L) run k 2 jl ⟨entry 53 [.sc (.string s)],[],[]⟩=some ⟨fr,[],[]⟩∧fr.length=53∧nth fr 3 = .sc (.string s):=by
 obtain⟨e1,e2⟩:=cW 52 (.sc (.string s))
 generalize entry 53 [.sc (.string s)]=fr0 at *
 simp[jl,f111,aX,e1,e2]
theorem QU (l:List Nat)(k:Nat)(hp:List Blk)(h:k≤l.length):dq TT hp 94 (.sc (.string (tx l))) (some (.sc (.int .i64 (k:Int)))) none none=some (.sc (.string (tx (l.drop k)))):=by
 simp only[dq,uAI,eu,dX,bnd,fk,bm]
 simp[tx,fy,h]
 rw[take_of_length_le (by simp)]
theorem aiL (a:Nat):((a:Int) == 48)=a.beq 48:=by
 cases h:a.beq 48 with
 | true=>rw[Nat.eq_of_beq_eq_true h];rfl
 | false =>
  rw[beq_eq_false_iff_ne]
  intro e
  have:a=48:=by omega
  subst this;cases h
def lq:List Nat→Option (List Nat)
 | []=>some []
 | a::l=>bif a.beq 45 then (match l with
  | []=>some []
  | b::l=>bif b.beq 48 then none else some (b::l)) else some (a::l)
set_option maxHeartbeats 2000000 in
theorem aer(l:List Nat)(hl:Bok l)(h53:fr.length=53)(h3:nth fr 3 = .sc (.string (tx l))) :
  (lq l=none∧∃ fr',af (CC L) run k tV ⟨fr,[],[]⟩=some (.ret,⟨fr',[],[]⟩)∧nth fr' 2 = .sc (.bool false)) ∨
  ∃ l' fr',lq l=some l'∧af (CC L) run k tV ⟨fr,[],[]⟩=some (.normal,⟨fr',[],[]⟩)∧fr'.length=53∧nth fr' 3 = .sc (.string (tx l')):=by
 cases l with
 | nil =>
  refine .inr ⟨[],?_⟩
  simp[lq,tV,jl,f111,h53,h3,undef]
 | cons a l =>
  have hx:iC TT 94 (.sc (.string (tx (a::l)))) (.sc (.int .i64 0))=some (.sc (.int .u8 (a:Int))):=fo uAI hl .i64 0 (by simp)
  have hp:(0:Int)<(l.length:Int)+1:=by omega
  have hb:=agq a
  have hs:dq TT [] 94 (.sc (.string (tx (a::l)))) (some (.sc (.int .i64 1))) none none=some (.sc (.string (tx l))):=QU (a::l) 1 [] (by simp)
  cases h:a.beq 45 with
  | false =>
   rw[h] at hb
   refine .inr ⟨a::l,?_⟩
   simp[lq,h,tV,jl,f111,h53,h3,hx,hp,hb]
  | true =>
   rw[h] at hb
   cases l with
   | nil =>
    refine .inr ⟨[],?_⟩
    simp[lq,h,tV,jl,f111,h53,h3,hx,hb,hs,undef]
   | cons b l =>
    have hl2:Bok (b::l):=fun x hx=>hl x (mem_cons_of_mem _ hx)
    have hx2:iC TT 94 (.sc (.string (tx (b::l)))) (.sc (.int .i64 0))=some (.sc (.int .u8 (b:Int))):=fo uAI hl2 .i64 0 (by simp)
    have hp2:(0:Int)<(l.length:Int)+1:=by omega
    have hp3:(0:Int)<(l.length:Int)+1+1:=by omega
    have hb2:=aiL b
    cases h2:b.beq 48 with
    | true =>
     rw[h2] at hb2
     refine .inl ⟨by simp[lq,h,h2],?_⟩
     simp[tV,jl,f111,h53,h3,hx,hb,hs,hx2,hp2,hp3,hb2]
    | false =>
     rw[h2] at hb2
     refine .inr ⟨b::l,?_⟩
     simp[lq,h,h2,tV,jl,f111,h53,h3,hx,hb,hs,hx2,hp2,hp3,hb2]
def vHd:List Nat→Bool
 | []=>true
 | [_]=>false
 | a::_::_=>a.beq 48
set_option maxHeartbeats 2000000 in
theorem aeq(l:List Nat)(hl:Bok l)(h53:fr.length=53)(h3:nth fr 3 = .sc (.string (tx l))) :
  (vHd l=true∧∃ fr',af (CC L) run k wW ⟨fr,[],[]⟩=some (.ret,⟨fr',[],[]⟩)∧nth fr' 2 = .sc (.bool false)) ∨
  (vHd l=false∧∃ fr',af (CC L) run k wW ⟨fr,[],[]⟩=some (.normal,⟨fr',[],[]⟩)∧fr'.length=53∧nth fr' 3 = .sc (.string (tx l))):=by
 cases l with
 | nil =>
  refine .inl ⟨rfl,?_⟩
  simp[wW,jl,f111,h53,h3,undef]
 | cons a l =>
  have hx:iC TT 94 (.sc (.string (tx (a::l)))) (.sc (.int .i64 0))=some (.sc (.int .u8 (a:Int))):=fo uAI hl .i64 0 (by simp)
  have hb:=aiL a
  cases l with
  | nil =>
   refine .inr ⟨rfl,?_⟩
   cases h:a.beq 48 <;> rw[h] at hb <;> simp[wW,jl,f111,h53,h3,hx,hb,undef]
  | cons b l =>
   have hne:((l.length:Int)+1+1 == 0)=false:=by rw[beq_eq_false_iff_ne];omega
   have hne2 : ¬ ((l.length:Int)+1+1=0):=by omega
   have hlt:(1:Int)<(l.length:Int)+1+1:=by omega
   cases h:a.beq 48 with
   | true =>
    rw[h] at hb
    refine .inl ⟨h,?_⟩
    simp[wW,jl,f111,h53,h3,hx,hb,hne,hlt]
   | false =>
    rw[h] at hb
    refine .inr ⟨h,?_⟩
    simp[wW,jl,f111,h53,h3,hx,hb,hne,undef]
theorem aep(h53:fr.length=53) :
  ∃ fr',af (CC L) run k Sy ⟨fr,[],[]⟩=some (.normal,⟨fr',[],[]⟩)∧fr'.length=53∧nth fr' 3=nth fr 3∧nth fr' 4=iv 0:=by
 simp[Sy,jl,f111,h53,iv]
theorem Sx(h53:fr.length=53) :
  ∃ st,af (CC L) run k (ah 5 jl) ⟨fr,[],[]⟩=some (.ret,st)∧aU TT st.fr st.hp f111.results.toList=some [.sc (.bool true)]:=by
 simp[jl,f111,h53,aU]
def lM (l:List Nat):Bool:=match lq l with
 | none=>false
 | some l' => !vHd l' && fc l'
def Sz:List PV→Option (List PV)
 | [.sc (.string s)]=>bif (bys s).length.blt 20000000 then some [.sc (.bool (lM (bys s)))] else none
 | _=>none
theorem BC(h2:nth fr 2 = .sc (.bool false)):aU TT fr [] f111.results.toList=some [.sc (.bool false)]:=by
 simp[f111,aU,h2]
theorem YA {l l':List Nat}(h:lq l=some l')(hl:Bok l):Bok l'∧l'.length≤l.length:=by
 cases l with
 | nil=>simp only[lq,OiE] at h;subst h;exact⟨hl,Nat.le_refl _⟩
 | cons a l =>
  cases ha:a.beq 45 with
  | false=>simp only[lq,ha,cond_false,OiE] at h;subst h;exact⟨hl,Nat.le_refl _⟩
  | true =>
   cases l with
   | nil=>simp only[lq,ha,cond_true,OiE] at h;subst h;exact⟨Bok.nil,Nat.zero_le _⟩
   | cons b l =>
    cases hb:b.beq 48 with
    | true=>simp[lq,ha,hb] at h
    | false =>
     simp only[lq,ha,hb,cond_true,cond_false,OiE] at h
     subst h
     exact⟨fun x hx=>hl x (mem_cons_of_mem _ hx),by simp⟩
theorem Sw:Ab.Spec base.P 111 Sz:=Ab.Spec.bM (C:=CC []) (cP trivial) fun args rs h=>by
 unfold Sz at h
 split at h
 ·rename_i s
  cases hb:(bys s).length.blt 20000000 with
  | false=>rw[hb] at h;cases h
  | true =>
   rw[hb] at h
   simp only[cond_true,OiE] at h
   subst h
   rw[Nat.blt_eq] at hb
   have hok:=mY s
   obtain⟨f1,a1,a2,a3⟩:=Zy [] (runK (CC []) 20000000) 20000000 s
   rw[← iO s] at a3
   rcases aer [] (runK (CC []) 20000000) 20000000 f1 (bys s) hok a2 a3 with ⟨hc,f2,b1,b2⟩| ⟨l',f2,hc,b1,b2,b3⟩
   ·have hv:lM (bys s)=false:=by rw[lM,hc]
    have hx:af (CC []) (runK (CC []) 20000000) 20000000 jl ⟨entry 53 [.sc (.string s)],[],[]⟩=some (.ret,⟨f2,[],[]⟩):=by
     rw[aO 2 a1,vy,cC b1]
    rw[hv]
    exact⟨20000001,_,_,_,_,_,aP kg rfl hx (BC f2 b2),rfl,Wk.refl rfl,trivial⟩
   ·obtain⟨hok',hlen⟩:=YA hc hok
    rcases aeq [] (runK (CC []) 20000000) 20000000 f2 l' hok' b2 b3 with ⟨hh,f3,c1,c2⟩| ⟨hh,f3,c1,c2,c3⟩
    ·have hv:lM (bys s)=false:=by rw[lM,hc];simp[hh]
     have hx:af (CC []) (runK (CC []) 20000000) 20000000 jl ⟨entry 53 [.sc (.string s)],[],[]⟩=some (.ret,⟨f3,[],[]⟩):=by
      rw[aO 2 a1,vy,av b1,BB,cC c1]
     rw[hv]
     exact⟨20000001,_,_,_,_,_,aP kg rfl hx (BC f3 c2),rfl,Wk.refl rfl,trivial⟩
    ·obtain⟨f4,d1,d2,d3,d4⟩:=aep [] (runK (CC []) 20000000) 20000000 f3 c2
     rcases Dy [] (runK (CC []) 20000000) 20000000 l' hok' (by omega) l'.length 0 f4 (by omega) d2 (by rw[d3,c3]) d4 with ⟨hd,f5,e1,e2⟩| ⟨hd,f5,e1,e2⟩
     ·rw[drop_zero] at hd
      have hv:lM (bys s)=true:=by rw[lM,hc];simp[hh,hd]
      obtain⟨st,x1,x2⟩:=Sx [] (runK (CC []) 20000000) 20000000 f5 e2
      have hx:af (CC []) (runK (CC []) 20000000) 20000000 jl ⟨entry 53 [.sc (.string s)],[],[]⟩=some (.ret,st):=by
       rw[aO 2 a1,vy,av b1,BB,av c1,Kz,av ((av d1).trans (bN (ca e1 (by omega))))]
       exact x1
      rw[hv]
      exact⟨20000001,_,_,_,_,_,aP kg rfl hx x2,rfl,Wk.refl rfl,trivial⟩
     ·rw[drop_zero] at hd
      have hv:lM (bys s)=false:=by rw[lM,hc];simp[hd]
      have hx:af (CC []) (runK (CC []) 20000000) 20000000 jl ⟨entry 53 [.sc (.string s)],[],[]⟩=some (.ret,⟨f5,[],[]⟩):=by
       rw[aO 2 a1,vy,av b1,BB,av c1,Kz]
       exact cC ((av d1).trans (df (ca e1 (by omega))))
      rw[hv]
      exact⟨20000001,_,_,_,_,_,aP kg rfl hx (BC f5 e2),rfl,Wk.refl rfl,trivial⟩
 ·cases h
end Go.Proofs.YtjdmodeenbdfpaaGreat
end
