/- Contracts of numbers kept as digits in text, part 31 of the proof; each lemma states its own conditions. -/
import Derived.Test.YtjdmodeenbdfpaaGreatR30
set_option linter.unusedSimpArgs false
set_option linter.unusedVariables false
namespace Go.Proofs.YtjdmodeenbdfpaaGreat
open Go Go.Ab
noncomputable def fo:Code:=Tryz.f68.body.getD .skip
noncomputable def jg:Code:=((Tryz.f68.body).bind az).getD .skip
noncomputable def sC:Code:=(az jg).getD .skip
noncomputable def sE:Code:=(az (ah 8 fo)).getD .skip
abbrev hpT (out:List Nat):List Blk:=[⟨.live,out.map iv⟩]
def TF (fr:List PV)(p q:Bool)(x y:List Nat)(n:Nat):Prop :=
 fr.length=120∧nth fr 9 = .sc (.bool p)∧nth fr 10=bz x∧nth fr 11 = .sc (.bool q)∧nth fr 12=bz y∧nth fr 13 = .own 0 1 0 n true
def gJ:Code→Array Oper
 | .region _ ops _=>ops
 | _=>#[]
noncomputable def PU:Code:=match cA sC with | .seq (.block _ c) _=>c | c=>c
theorem WK:((Region.before (gJ PU))[21]?.getD 0).testBit 9=true:=by kernel_rfl
theorem Lf (L:Lst)(run:ar)(k:Nat)(fr:List PV)(hp:List Blk)(wr:List Nat)(p q:Bool)(x y:List Nat)(n i:Nat)(h:TF fr p q x y n)(h14:nth fr 14=iv i)(h15:nth fr 15=iv y.length) :
  ∃ fr',af (CC L) run k sC ⟨fr,hp,wr⟩=some (.exit 2,⟨fr',hp,wr⟩)∧TF fr' p q x y n∧nth fr' 14=iv i:=by
 obtain⟨h0,h9,h10,h11,h12,h13⟩:=h
 simp only[iv] at h14 h15 ⊢
 simp[TF,sC,jg,Tryz.f68,az,af,aJ,ao,aq,aH,ag,ai,aj,an,aF,aC,FP.none,bd,au,bj,bM,aa,ae,ab,bh,and_assoc,dK,h0,h9,h10,h11,h12,h13,h14,h15,uL]
set_option maxHeartbeats 4000000 in
theorem B7 (L:Lst)(run:ar)(kk:Nat)(fr:List PV)(wr:List Nat)(p q:Bool)(x y out:List Nat)(n i k j s:Nat)(hx:T.Dok x)(hy:T.Dok y)(hi:i<x.length)(hk:k<y.length)(hj:j=i+k)(hjn:j<out.length)(hn:out.length=n)(hn9:n<30000000)
  (hb:at0 out j≤10000000000) (hs:s=at0 out j+at0 x i*at0 y k) (h:TF fr p q x y n) (h14:nth fr 14=iv i) (h15:nth fr 15=iv k) :
  ∃ fr' wr',af (CC L) run kk sC ⟨fr,hpT out,wr⟩=some (.normal,⟨fr',hpT (out.set j s),wr'⟩)∧TF fr' p q x y n∧nth fr' 14=iv i∧nth fr' 15=iv (k+1):=by
 obtain⟨h0,h9,h10,h11,h12,h13⟩:=h
 subst hn
 have hd1:=fz x i hi
 have hd2:=fz y k hk
 have hd3:=fz out j hjn
 have hov:=jN (e:=iv) out j s hjn
 have a1:=T.cw hx i
 have a2:=T.cw hy k
 have hm:at0 x i*at0 y k≤9*9:=Nat.mul_le_mul (by omega) (by omega)
 generalize at0 x i=a at *
 generalize at0 y k=b at *
 generalize at0 out j=o at *
 obtain⟨t,ht⟩:∃ t,t=a*b:=⟨_,rfl⟩
 rw[← ht] at hs hm
 have hwj:=dp .i64 i k j hj (hiI (by omega))
 have hw1:=wrapM .i64 a b t ht (hiI (by omega))
 have hw2:=dp .i64 o t s hs (hiI (by omega))
 have hwk:=bE k (by omega)
 have hb1:=WK
 simp[-Nat.testBit_zero,PU,sC,jg,Tryz.f68,az,cA,gJ] at hb1
 have e1:bz x = .imm x.length false (x.map iv):=rfl
 have e2:bz y = .imm y.length false (y.map iv):=rfl
 rw[e1] at h10;rw[e2] at h12
 simp only[iv] at h14 h15 ⊢
 simp[-Nat.testBit_zero,hb1,TF,e1,e2,sC,jg,Tryz.f68,az,af,aJ,ao,aq,aH,ag,ai,aj,an,aF,aC,FP.none,bd,au,bj,aw,bM,bc,bm,partOf,aa,ae,ab,bh,and_assoc,cS,bg,qv,dN,h0,h9,h10,h11,h12,h13,h14,h15,uL,sI,aI,aU,aV,bO,hi,hk,hjn,hd1,hd2,hd3,hov,hwj,hw1,hw2,hwk,pz s,number,FP.free,cF,FP.apart]
theorem vc (L:Lst)(run:ar)(kk:Nat)(p q:Bool)(x y:List Nat)(n i V0:Nat)(hx:T.Dok x)(hy:T.Dok y)(hi:i<x.length)(hn:n=x.length+y.length+1)(hn9:n<20000000) :
  ∀ (d k:Nat) (fr:List PV) (wr out:List Nat),k+d=y.length→out.length=n→TF fr p q x y n→nth fr 14=iv i→nth fr 15=iv k→(∀ m,at0 out m≤81*(i+1))→(∀ m,i+k≤m→at0 out m≤81*i)→T.val out=V0+at0 x i*T.val (y.take k)*10 ^ i →
  ∃ (fr':List PV) (wr' out':List Nat),cl (af (CC L) run kk sC) (d+1) ⟨fr,hpT out,wr⟩=some (.exit 2,⟨fr',hpT out',wr'⟩)∧TF fr' p q x y n∧nth fr' 14=iv i∧out'.length=n∧(∀ m,at0 out' m≤81*(i+1))∧T.val out'=V0+at0 x i*T.val y*10 ^ i
 | 0,k,fr,wr,out,hk,ho,h,h14,h15,hB1,hB2,hv=>by
  have:k=y.length:=by omega
  subst this
  obtain⟨fr',g1,g2,g3⟩:=Lf L run kk fr (hpT out) wr p q x y n i h h14 h15
  exact⟨fr',wr,out,bD g1,g2,g3,ho,hB1,by rw[hv,List.take_length]⟩
 | d+1,k,fr,wr,out,hk,ho,h,h14,h15,hB1,hB2,hv=>by
  have a1:=T.cw hx i
  have a2:=T.cw hy k
  have hm:at0 x i*at0 y k≤9*9:=Nat.mul_le_mul (by omega) (by omega)
  have hjn:i+k<out.length:=by omega
  have hbo:=hB2 (i+k) (Nat.le_refl _)
  obtain⟨fr1,wr1,g1,g2,g3,g4⟩:=B7 L run kk fr wr p q x y out n i k (i+k) _ hx hy hi (by omega) rfl hjn ho (by omega) (by omega) rfl h h14 h15
  have hset:∀ m,at0 (out.set (i+k) (at0 out (i+k)+at0 x i*at0 y k)) m=if m=i+k then at0 out (i+k)+at0 x i*at0 y k else at0 out m:=by
   intro m
   by_cases e:m=i+k
   ·subst e;rw[if_pos rfl,de (by simpa using hjn)];simp
   ·rw[if_neg e,fW (fun h=>e h.symm)]
  obtain⟨fr',wr',out',q1,q2⟩:=vc L run kk p q x y n i V0 hx hy hi hn hn9 d (k+1) fr1 wr1 (out.set (i+k) (at0 out (i+k)+at0 x i*at0 y k)) (by omega) (by rw[List.length_set];exact ho) g2 g3 g4
   (fun m=>by
    rw[hset]
    split
    ·omega
    ·exact hB1 m)
   (fun m hm=>by
    rw[hset,if_neg (by omega)]
    exact hB2 m (by omega))
   (by
    have h1:=T.pj out (i+k) (at0 out (i+k)+at0 x i*at0 y k) hjn
    rw[← de hjn] at h1
    rw[T.cD]
    have e1:(10:Nat) ^ (i+k)=10 ^ k*10 ^ i:=by rw[Nat.pow_add,Nat.mul_comm]
    rw[e1] at h1
    have e2:at0 x i*(T.val (y.take k)+at0 y k*10 ^ k)*10 ^ i=at0 x i*T.val (y.take k)*10 ^ i+at0 x i*at0 y k*(10 ^ k*10 ^ i):=by
     rw[Nat.mul_add,Nat.add_mul,← Nat.mul_assoc,Nat.mul_assoc (at0 x i*at0 y k)]
    rw[e2]
    rw[Nat.add_mul (at0 out (i+k))] at h1
    omega)
  exact⟨fr',wr',out',by rw[ch g1];exact q1,q2⟩
noncomputable def B9:Code:=match cA jg with | .seq (.block _ c) _=>c | c=>c
noncomputable def Aj:Code:=seq1 B9
theorem PS:jg = .seq (seq1 jg) (.seq (.block 1 B9) (ah 2 jg)):=rfl
theorem PW:B9 = .seq Aj (.block 2 (.loop sC)):=rfl
theorem Le (L:Lst)(run:ar)(k:Nat)(fr:List PV)(hp:List Blk)(wr:List Nat)(p q:Bool)(x y:List Nat)(n:Nat)(h:TF fr p q x y n)(h14:nth fr 14=iv x.length) :
  ∃ fr',af (CC L) run k jg ⟨fr,hp,wr⟩=some (.exit 0,⟨fr',hp,wr⟩)∧TF fr' p q x y n:=by
 obtain⟨h0,h9,h10,h11,h12,h13⟩:=h
 simp only[iv] at h14
 simp[TF,jg,Tryz.f68,az,af,aJ,ao,aq,aH,ag,ai,aj,an,aF,aC,FP.none,bd,au,bj,bM,aa,ae,ab,bh,dK,h0,h9,h10,h11,h12,h13,h14,uL]
theorem PT (L:Lst)(run:ar)(k:Nat)(fr:List PV)(hp:List Blk)(wr:List Nat)(p q:Bool)(x y:List Nat)(n i:Nat)(hi:i<x.length)(h:TF fr p q x y n)(h14:nth fr 14=iv i) :
  ∃ fr' fr'',af (CC L) run k (seq1 jg) ⟨fr,hp,wr⟩=some (.normal,⟨fr',hp,wr⟩)∧af (CC L) run k Aj ⟨fr',hp,wr⟩=some (.normal,⟨fr'',hp,wr⟩)∧TF fr'' p q x y n∧nth fr'' 14=iv i∧nth fr'' 15=iv 0:=by
 obtain⟨h0,h9,h10,h11,h12,h13⟩:=h
 simp only[iv] at h14 ⊢
 simp[TF,Aj,B9,jg,Tryz.f68,az,seq1,cA,af,aJ,ao,aq,aH,ag,ai,aj,an,aF,aC,FP.none,bd,au,bj,aw,bM,aa,ae,ab,bh,and_assoc,dK,h0,h9,h10,h11,h12,h13,h14,uL,hi]
theorem PR (L:Lst)(run:ar)(k:Nat)(fr:List PV)(hp:List Blk)(wr:List Nat)(p q:Bool)(x y:List Nat)(n i:Nat)(hi:i<20000000)(h:TF fr p q x y n)(h14:nth fr 14=iv i) :
  ∃ fr',af (CC L) run k (ah 2 jg) ⟨fr,hp,wr⟩=some (.normal,⟨fr',hp,wr⟩)∧TF fr' p q x y n∧nth fr' 14=iv (i+1):=by
 obtain⟨h0,h9,h10,h11,h12,h13⟩:=h
 have hw:=bE i (by omega)
 simp only[iv] at h14 ⊢
 simp[TF,jg,Tryz.f68,az,ah,af,aJ,ao,aq,aH,ag,ai,aj,an,aF,aC,FP.none,bd,au,bj,aw,aa,ae,ab,and_assoc,h0,h9,h10,h11,h12,h13,h14,hw]
theorem u0 (L:Lst)(run:ar)(kk:Nat)(p q:Bool)(x y:List Nat)(n:Nat)(hx:T.Dok x)(hy:T.Dok y)(hn:n=x.length+y.length+1)(hn9:n<20000000)(hkk:y.length+1≤kk) :
  ∀ (d i:Nat) (fr:List PV) (wr out:List Nat),i+d=x.length→out.length=n→TF fr p q x y n→nth fr 14=iv i→(∀ m,at0 out m≤81*i)→T.val out=T.val (x.take i)*T.val y →
  ∃ (fr':List PV) (wr' out':List Nat),cl (af (CC L) run kk jg) (d+1) ⟨fr,hpT out,wr⟩=some (.exit 0,⟨fr',hpT out',wr'⟩)∧TF fr' p q x y n∧out'.length=n∧(∀ m,at0 out' m≤81*x.length)∧T.val out'=T.val x*T.val y
 | 0,i,fr,wr,out,hi,ho,h,h14,hB,hv=>by
  have:i=x.length:=by omega
  subst this
  obtain⟨fr',g1,g2⟩:=Le L run kk fr (hpT out) wr p q x y n h h14
  exact⟨fr',wr,out,bD g1,g2,ho,hB,by rw[hv,List.take_length]⟩
 | d+1,i,fr,wr,out,hi,ho,h,h14,hB,hv=>by
  obtain⟨f1,f2,g1,g2,g3,g4,g5⟩:=PT L run kk fr (hpT out) wr p q x y n i (by omega) h h14
  obtain⟨f3,wr3,out3,r1,r2,r3,r4,r5,r6⟩:=vc L run kk p q x y n i (T.val out) hx hy (by omega) hn hn9 y.length 0 f2 wr out (by omega) ho g3 g4 g5 (fun m=>by have:=hB m;omega) (fun m _=>hB m) (by simp[T.val])
  obtain⟨f4,s1,s2,s3⟩:=PR L run kk f3 (hpT out3) wr3 p q x y n i (by omega) r2 r3
  have hB1:af (CC L) run kk B9 ⟨f1,hpT out,wr⟩=some (.normal,⟨f3,hpT out3,wr3⟩):=by
   rw[PW,av g2,bH (ca r1 hkk)]
  have hO1:af (CC L) run kk jg ⟨fr,hpT out,wr⟩=some (.normal,⟨f4,hpT out3,wr3⟩):=by
   rw[PS,av g1,av (dW hB1)]
   exact s1
  obtain⟨fr',wr',out',q1,q2⟩:=u0 L run kk p q x y n hx hy hn hn9 hkk d (i+1) f4 wr3 out3 (by omega) r4 s2 s3 r5 (by
   rw[r6,hv,T.cD,Nat.add_mul]
   rw[Nat.mul_assoc (at0 x i),Nat.mul_assoc (at0 x i),Nat.mul_comm (T.val y)])
  exact⟨fr',wr',out',by rw[ch hO1];exact q1,q2⟩
noncomputable def Fy:Code:=match cA sE with | .seq (.block _ c) _=>c | c=>c
theorem WJ:((Region.before (gJ (seq1 Fy)))[15]?.getD 0).testBit 7=true:=by kernel_rfl
theorem WI:((Region.before (gJ (seq1 Fy)))[15]?.getD 0).testBit 11=true:=by kernel_rfl
theorem Lg (L:Lst)(run:ar)(k:Nat)(fr:List PV)(hp:List Blk)(wr:List Nat)(p q:Bool)(x y:List Nat)(n i:Nat)(hi:i+1=n)(hn9:n<20000000)(h:TF fr p q x y n)(h16:nth fr 16=iv i) :
  ∃ fr',af (CC L) run k sE ⟨fr,hp,wr⟩=some (.exit 4,⟨fr',hp,wr⟩)∧TF fr' p q x y n:=by
 obtain⟨h0,h9,h10,h11,h12,h13⟩:=h
 have hw:=bE i (by omega)
 subst hi
 simp only[iv] at h16
 simp[TF,sE,fo,Tryz.f68,ah,az,af,aJ,ao,aq,aH,ag,ai,aj,an,aF,aC,FP.none,bd,au,bj,aw,bM,aa,ae,ab,bh,gw,h0,h9,h10,h11,h12,h13,h16,uL,hw]
set_option maxHeartbeats 4000000 in
theorem B8 (L:Lst)(run:ar)(kk:Nat)(fr:List PV)(wr:List Nat)(p q:Bool)(x y out:List Nat)(n i j s r:Nat)(hj:j=i+1)(hjn:j<out.length)(hn:out.length=n)(hn9:n<20000000)
  (hb:at0 out i≤10000000000) (hb2:at0 out j≤10000000000) (hs:s=at0 out j+at0 out i / 10) (hr:r=at0 out i % 10) (h:TF fr p q x y n) (h16:nth fr 16=iv i) :
  ∃ fr' wr',af (CC L) run kk sE ⟨fr,hpT out,wr⟩=some (.normal,⟨fr',hpT ((out.set j s).set i r),wr'⟩)∧TF fr' p q x y n∧nth fr' 16=iv (i+1):=by
 obtain⟨h0,h9,h10,h11,h12,h13⟩:=h
 subst hn
 have hin:i<out.length:=by omega
 have hlt:(i:Int)+1<(out.length:Int):=by omega
 have hin2:i<(out.set j s).length:=by rw[List.length_set];exact hin
 have hd1:=fz out i hin
 have hd2:=fz out j hjn
 have hd3:=fz (out.set j s) i hin2
 rw[fW (by omega)] at hd3
 have hov:=jN (e:=iv) out j s hjn
 have hov2:=jN (e:=iv) (out.set j s) i r hin2
 generalize at0 out i=a at *
 generalize at0 out j=b at *
 obtain⟨t,ht⟩:∃ t,t=a / 10:=⟨_,rfl⟩
 rw[← ht] at hs
 have ht9:t≤10000000000:=by rw[ht];exact Nat.le_trans (Nat.div_le_self _ _) hb
 have hw1:bA .i64 ((a:Int) / 10)=(t:Int):=T.jr .i64 a t ht (hiI (Nat.le_trans ht9 (by decide)))
 have hw3:=T.kS a r hr
 clear ht hr
 have hwj:bA .i64 ((i:Int)+1)=(j:Int):=by rw[bE i (by omega)];omega
 have hw2:=dp .i64 b t s hs (hiI (by omega))
 have hb1:=WJ
 have hb3:=WI
 simp[-Nat.testBit_zero,Fy,sE,fo,Tryz.f68,ah,az,seq1,cA,gJ] at hb1 hb3
 have hji:nth fr 16=iv i:=h16
 simp only[iv] at h16 ⊢
 subst hj
 have hjI:((i+1:Nat):Int)=(i:Int)+1:=by omega
 rw[hjI] at hwj
 simp[-Nat.testBit_zero,-List.map_set,hb1,hb3,TF,sE,fo,Tryz.f68,ah,az,af,aJ,ao,aq,aH,ag,ai,aj,an,aF,aC,FP.none,bd,au,bj,aw,bM,bc,bm,iW,partOf,aa,ae,ab,bh,and_assoc,gw,bg,qv,dN,h0,h9,h10,h11,h12,h13,h16,uL,sI,aI,aU,aV,bO,hin,hjn,hlt,hd1,hd2,hd3,hov,hov2,hwj,hw1,hw2,hw3,pz s,pz r,number,FP.free,cF,FP.apart]
theorem Hv {l:List Nat}(h:∀ m,m<l.length→at0 l m<10):T.Dok l:=fun x hx=>by
 obtain⟨i,hi,rfl⟩:=List.getElem_of_mem hx
 have:=h i hi
 rwa [de hi] at this
theorem M9 {out:List Nat}{i a b:Nat}(hj:i+1<out.length)(ha:a=at0 out i)(hb:b=at0 out (i+1)) :
  T.val ((out.set (i+1) (b+a / 10)).set i (a % 10))=T.val out:=by
 have h1:=T.pj out (i+1) (b+a / 10) hj
 have h2:=T.pj (out.set (i+1) (b+a / 10)) i (a % 10) (by rw[List.length_set];omega)
 rw[← de hj,← hb] at h1
 rw[← de (show i<(out.set (i+1) (b+a / 10)).length by rw[List.length_set];omega),fW (by omega),← ha] at h2
 have h3:a=10*(a / 10)+a % 10:=(Nat.div_add_mod a 10).symm
 rw[Nat.pow_succ] at h1
 generalize a / 10=q at *
 generalize a % 10=r at *
 have h4:a*10 ^ i=10*q*10 ^ i+r*10 ^ i:=by rw[h3,Nat.add_mul]
 have h5:(b+q)*(10 ^ i*10)=b*(10 ^ i*10)+10*q*10 ^ i:=by
  rw[Nat.add_mul,Nat.mul_comm (10 ^ i) 10,← Nat.mul_assoc q,Nat.mul_comm q 10]
 omega
theorem vd (L:Lst)(run:ar)(kk:Nat)(p q:Bool)(x y:List Nat)(n W V:Nat)(hn9:n<20000000)(hW:W<20000000)(hV:V<10 ^ (n - 1)) :
  ∀ (d i:Nat) (fr:List PV) (wr out:List Nat),i+d+1=n→out.length=n→TF fr p q x y n→nth fr 16=iv i→(∀ m,m<i→at0 out m<10)→at0 out i≤90*W→(∀ m,i<m→at0 out m≤81*W)→T.val out=V →
  ∃ (fr':List PV) (wr' out':List Nat),cl (af (CC L) run kk sE) (d+1) ⟨fr,hpT out,wr⟩=some (.exit 4,⟨fr',hpT out',wr'⟩)∧TF fr' p q x y n∧out'.length=n∧T.Dok out'∧T.val out'=V
 | 0,i,fr,wr,out,hi,ho,h,h16,hB,hB1,hB2,hv=>by
  obtain⟨fr',g1,g2⟩:=Lg L run kk fr (hpT out) wr p q x y n i (by omega) hn9 h h16
  refine⟨fr',wr,out,bD g1,g2,ho,Hv fun m hm => ?_,hv⟩
  by_cases hmi:m<i
  ·exact hB m hmi
  ·have e:m=i:=by omega
   subst e
   have h1:T.val out=T.val (out.take (m+1)):=by rw[T.cI _ _ (by omega)]
   rw[T.cD,hv] at h1
   have hne:n - 1=m:=by omega
   rw[hne] at hV
   rcases Nat.eq_zero_or_pos (at0 out m) with h0 | h0
   ·omega
   ·have:=Nat.mul_le_mul_right (10 ^ m) h0
    omega
 | d+1,i,fr,wr,out,hi,ho,h,h16,hB,hB1,hB2,hv=>by
  have hj1:=hB2 (i+1) (by omega)
  have hjn:i+1<out.length:=by omega
  obtain⟨fr1,wr1,g1,g2,g3⟩:=B8 L run kk fr wr p q x y out n i (i+1) _ _ rfl hjn ho hn9 (by omega) (by omega) rfl rfl h h16
  have hat:∀ m,at0 ((out.set (i+1) (at0 out (i+1)+at0 out i / 10)).set i (at0 out i % 10)) m=if m=i then at0 out i % 10 else if m=i+1 then at0 out (i+1)+at0 out i / 10 else at0 out m:=by
   intro m
   by_cases e:m=i
   ·subst e
    rw[if_pos rfl,de (by simp;omega)]
    simp
   ·rw[if_neg e,fW (fun h=>e h.symm)]
    by_cases e2:m=i+1
    ·subst e2
     rw[if_pos rfl,de (by simp;omega)]
     simp
    ·rw[if_neg e2,fW (fun h=>e2 h.symm)]
  have hq:at0 out i / 10≤9*W:=Nat.div_le_of_le_mul (by omega)
  obtain⟨fr',wr',out',q1,q2⟩:=vd L run kk p q x y n W V hn9 hW hV d (i+1) fr1 wr1 ((out.set (i+1) (at0 out (i+1)+at0 out i / 10)).set i (at0 out i % 10)) (by omega) (by simp[ho]) g2 g3
   (fun m hm=>by
    rw[hat]
    by_cases e:m=i
    ·rw[if_pos e];exact Nat.mod_lt _ (by omega)
    ·rw[if_neg e,if_neg (by omega)];exact hB m (by omega))
   (by
    rw[hat,if_neg (by omega),if_pos rfl]
    omega)
   (fun m hm=>by
    rw[hat,if_neg (by omega),if_neg (by omega)]
    exact hB2 m (by omega))
   (by rw[M9 hjn rfl rfl];exact hv)
  exact⟨fr',wr',out',by rw[ch g1];exact q1,q2⟩
noncomputable def Fx:Code:=seq1 (seq1 (ah 7 fo))
noncomputable def Ai:Code:=seq1 (seq1 (ah 8 fo))
theorem PN:ah 7 fo = .seq (.seq Fx (.block 0 (.loop jg))) (ah 8 fo):=rfl
theorem PM:ah 8 fo = .seq (.seq Ai (.block 4 (.loop sE))) (ah 9 fo):=rfl
set_option maxHeartbeats 1000000 in
theorem abq (L:Lst)(run:ar)(k:Nat)(s t r:ByteArray)(u v w:Int)(g1:aA L run 113 [.sc (.string s)] (.tup [Ab.bJ u,.sc (.bool true)]))(g2:aA L run 113 [.sc (.string t)] (.tup [Ab.bJ v,.sc (.bool true)]))
  (hw:bA .i64 (u*v)=w) (g3:aA L run 114 [.sc (.int .i64 w)] (.sc (.string r))) :
  ∃ st,af (CC L) run k fo ⟨entry 120 [.sc (.string s),.sc (.string t)],[],[]⟩=some (.ret,st)∧aZ TT st.fr st.hp Tryz.f68.results.toList=some [.sc (.string r)]:=by
 obtain⟨e1,e2,e3⟩:=cC 118 (.sc (.string s)) (.sc (.string t))
 generalize entry 120 [.sc (.string s),.sc (.string t)]=fr0 at *
 unfold aA at *
 simp only[Ab.bJ] at *
 simp[fo,Tryz.f68,e1,e2,e3,af,aJ,ao,aq,aH,ag,ai,aQ,aj,an,aF,aC,FP.none,bd,au,bj,aw,aa,ae,ab,g1,g2,hw,g3,aZ]
set_option maxHeartbeats 1000000 in
theorem PQ (L:Lst)(run:ar)(k:Nat)(s t:ByteArray)(u v:Int)(f1 f2:Bool)(hf:(f1 && f2)=false)(g1:aA L run 113 [.sc (.string s)] (.tup [Ab.bJ u,.sc (.bool f1)]))(g2:aA L run 113 [.sc (.string t)] (.tup [Ab.bJ v,.sc (.bool f2)])) :
  ∃ fr,aY (CC L) run k 4 fo ⟨entry 120 [.sc (.string s),.sc (.string t)],[],[]⟩=some ⟨fr,[],[]⟩∧fr.length=120∧nth fr 0 = .sc (.string s)∧nth fr 1 = .sc (.string t):=by
 obtain⟨e1,e2,e3⟩:=cC 118 (.sc (.string s)) (.sc (.string t))
 generalize entry 120 [.sc (.string s),.sc (.string t)]=fr0 at *
 unfold aA at *
 simp only[Ab.bJ] at *
 cases f1 <;> cases f2 <;> simp only[Bool.and_true,Bool.and_false,Bool.and_self,Bool.true_eq_false] at hf <;> simp[fo,Tryz.f68,aY,e1,e2,e3,af,aJ,ao,aq,aH,ag,ai,aQ,aj,an,aF,aC,FP.none,aw,aa,ae,ab,g1,g2,undef]
set_option maxHeartbeats 1000000 in
theorem WH (L:Lst)(run:ar)(k:Nat)(fr:List PV)(s t:ByteArray)(m n:Bool)(a b:List Nat)(g1:aA L run 115 [.sc (.string s)] (.tup [.sc (.bool m),bz a]))(g2:aA L run 115 [.sc (.string t)] (.tup [.sc (.bool n),bz b]))
  (h120:fr.length=120) (h0:nth fr 0 = .sc (.string s)) (h1:nth fr 1 = .sc (.string t)) (hl:a.length+b.length<19000000) :
  ∃ fr' wr',aY (CC L) run k 3 (ah 4 fo) ⟨fr,[],[]⟩=some ⟨fr',hpT (List.replicate (a.length+b.length+1) 0),wr'⟩∧TF fr' m n a b (a.length+b.length+1):=by
 unfold aA at *
 obtain⟨w,hw⟩:∃ w,w=a.length+b.length:=⟨_,rfl⟩
 have hw1:=dp .i64 a.length b.length w hw (hiI (by omega))
 have hw2:=bE w (by omega)
 have hm:w+1≤cY:=Nat.le_trans (show w+1≤19000001 by omega) (by decide)
 rw[show hpT (List.replicate (a.length+b.length+1) 0)=[⟨.live,rep (w+1) [iv 0]⟩] by rw[aeH,hw]]
 rw[← hw]
 simp[TF,fo,Tryz.f68,ah,aY,h120,h0,h1,af,aJ,ao,aq,aH,ag,ai,aQ,aj,an,aF,aC,FP.none,bd,au,bj,aw,bM,iW,aa,ae,ab,bh,and_assoc,dK,g1,g2,uL,sI,bI,zI,hw1,hw2,hm,aO,cn]
theorem WG (L:Lst)(run:ar)(k:Nat)(fr:List PV)(hp:List Blk)(wr:List Nat)(p q:Bool)(x y:List Nat)(n:Nat)(h:TF fr p q x y n) :
  ∃ fr',af (CC L) run k Fx ⟨fr,hp,wr⟩=some (.normal,⟨fr',hp,wr⟩)∧TF fr' p q x y n∧nth fr' 14=iv 0:=by
 obtain⟨h0,h9,h10,h11,h12,h13⟩:=h
 simp[TF,Fx,fo,Tryz.f68,ah,seq1,af,aJ,ao,aq,aH,ag,ai,aj,an,aF,aC,FP.none,aw,aa,ae,ab,and_assoc,h0,h9,h10,h11,h12,h13,iv]
theorem PO (L:Lst)(run:ar)(k:Nat)(fr:List PV)(hp:List Blk)(wr:List Nat)(p q:Bool)(x y:List Nat)(n:Nat)(h:TF fr p q x y n) :
  ∃ fr',af (CC L) run k Ai ⟨fr,hp,wr⟩=some (.normal,⟨fr',hp,wr⟩)∧TF fr' p q x y n∧nth fr' 16=iv 0:=by
 obtain⟨h0,h9,h10,h11,h12,h13⟩:=h
 simp[TF,Ai,fo,Tryz.f68,ah,seq1,af,aJ,ao,aq,aH,ag,ai,aj,an,aF,aC,FP.none,aw,aa,ae,ab,and_assoc,h0,h9,h10,h11,h12,h13,iv]
theorem Ld (L:Lst)(run:ar)(k:Nat)(fr:List PV)(hp hp':List Blk)(wr:List Nat)(p q:Bool)(x y:List Nat)(n:Nat)(r:PV)(fp:FP)(h:TF fr p q x y n)(hc:cg (CC L) run false hp 116 [.sc (.bool (p != q)),.own 0 1 0 n true]=some (r,hp',fp)) :
  ∃ st,af (CC L) run k (ah 9 fo) ⟨fr,hp,wr⟩=some (.ret,st)∧aZ TT st.fr st.hp Tryz.f68.results.toList=some [r]:=by
 obtain⟨h0,h9,h10,h11,h12,h13⟩:=h
 cases p <;> cases q <;> simp only[bne_self_eq_false,Bool.bne_true,Bool.bne_false,Bool.not_false] at hc <;> simp[fo,Tryz.f68,ah,af,aJ,ao,aq,aH,ag,ai,aQ,aj,an,aF,aC,FP.none,bd,dE,aa,ae,ab,bh,uB,h0,h9,h11,h13,hc,aZ]
def yk:List PV→Option (List PV)
 | [p,q]=>match fT p,fT q with
  | some x,some y=>some [zs (x*y)]
  | _,_=>none
 | _=>none
theorem OX (x y:Int):gG (bx x != bx y) (x.natAbs*y.natAbs)=x*y:=by
 rw[← Int.natAbs_mul,j6,cN,cN]
 have h:=Int.natAbs_mul x y
 rcases Int.lt_or_le x 0 with hx | hx <;> rcases Int.lt_or_le y 0 with hy | hy
 ·have h1:0≤x*y:=Int.mul_nonneg_of_nonpos_of_nonpos (by omega) (by omega)
  simp[hx,hy]
  omega
 ·have h1:x*y≤0:=Int.mul_nonpos_of_nonpos_of_nonneg (by omega) hy
  have h2 : ¬ y<0:=by omega
  simp[hx,h2]
  omega
 ·have h1:x*y≤0:=Int.mul_nonpos_of_nonneg_of_nonpos hx (by omega)
  have h2 : ¬ x<0:=by omega
  simp[hy,h2]
  omega
 ·have h1:0≤x*y:=Int.mul_nonneg hx hy
  have h2 : ¬ x<0:=by omega
  have h3 : ¬ y<0:=by omega
  simp[h2,h3]
  omega
theorem yj:Ab.Spec base.P 68 yk:=Ab.Spec.bQ (C:=CC LT4) (cV wY) fun args rs h=>by
 unfold yk at h
 split at h
 ·split at h
  ·rename_i x y ex ey
   obtain⟨rfl,hx⟩:=dj ex
   obtain⟨rfl,hy⟩:=dj ey
   simp only[Option.some.injEq] at h
   subst h
   have hx9:=Zm.Jh hx
   have hy9:=Zm.Jh hy
   generalize hK:(T.aG x.natAbs).length+(T.aG y.natAbs).length+2=K
   have gs1:=n9 (runK (CC LT4) K) x hx
   have gs2:=n9 (runK (CC LT4) K) y hy
   suffices hgo:∃ st,af (CC LT4) (runK (CC LT4) K) K fo ⟨entry 120 [zs x,zs y],[],[]⟩=some (.ret,st)∧aZ TT st.fr st.hp Tryz.f68.results.toList=some [zs (x*y)] by
    obtain⟨st,x1,x2⟩:=hgo
    exact⟨K+1,_,_,_,_,_,aX AW rfl x1 x2,rfl,Wk.refl rfl,trivial⟩
   have rest:∀ (u v:Int) (f1 f2:Bool),(f1 && f2)=false→aA LT4 (runK (CC LT4) K) 113 [zs x] (.tup [Ab.bJ u,.sc (.bool f1)])→aA LT4 (runK (CC LT4) K) 113 [zs y] (.tup [Ab.bJ v,.sc (.bool f2)]) →
     ∃ st,af (CC LT4) (runK (CC LT4) K) K fo ⟨entry 120 [zs x,zs y],[],[]⟩=some (.ret,st)∧aZ TT st.fr st.hp Tryz.f68.results.toList=some [zs (x*y)]:=by
    intro u v f1 f2 hf q1 q2
    obtain⟨fr1,a1,a2,a3,a4⟩:=PQ LT4 (runK (CC LT4) K) K _ _ u v f1 f2 hf q1 q2
    obtain⟨fr2,wr2,b1,b2⟩:=WH LT4 (runK (CC LT4) K) K fr1 _ _ _ _ _ _ (kl _ x hx) (kl _ y hy) a2 a3 a4 (by omega)
    obtain⟨fr3,c1,c2,c3⟩:=WG LT4 (runK (CC LT4) K) K fr2 (hpT (List.replicate ((T.aG x.natAbs).length+(T.aG y.natAbs).length+1) 0)) wr2 _ _ _ _ _ b2
    have hz:∀ m,at0 (List.replicate ((T.aG x.natAbs).length+(T.aG y.natAbs).length+1) 0) m=0:=by
     intro m
     unfold at0
     rw[List.getElem?_replicate]
     split <;> rfl
    obtain⟨fr4,wr4,out4,d1,d2,d3,d4,d5⟩:=u0 LT4 (runK (CC LT4) K) K _ _ _ _ _ (T.bU x.natAbs) (T.bU y.natAbs) rfl (by omega) (by omega) _ 0 fr3 wr2 (List.replicate ((T.aG x.natAbs).length+(T.aG y.natAbs).length+1) 0) (Nat.zero_add _) (by simp) c2 c3 (fun m=>by rw[hz];omega) (by rw[T.nM];simp[T.val])
    obtain⟨fr5,e1,e2,e3⟩:=PO LT4 (runK (CC LT4) K) K fr4 (hpT out4) wr4 _ _ _ _ _ d2
    rw[T.bZ,T.bZ] at d5
    have hlt:x.natAbs*y.natAbs<10 ^ ((T.aG x.natAbs).length+(T.aG y.natAbs).length+1 - 1):=by
     rw[Nat.add_sub_cancel,Nat.pow_add]
     exact Nat.mul_lt_mul'' (T.fy _) (T.fy _)
    obtain⟨fr6,wr6,out6,f1,f2,f3,f4,f5⟩:=vd LT4 (runK (CC LT4) K) K _ _ _ _ _ (T.aG x.natAbs).length (x.natAbs*y.natAbs) (by omega) (by omega) hlt ((T.aG x.natAbs).length+(T.aG y.natAbs).length) 0 fr5 wr4 out4 (by omega) d3 e2 e3 (fun m hm=>by omega) (by have:=d4 0;omega) (fun m _=>d4 m) d5
    have hO:jB iv 0 (hpT out6) out6 (.own 0 1 0 ((T.aG x.natAbs).length+(T.aG y.natAbs).length+1) true):=⟨Nat.zero_le _,.inr ⟨0,[],true,Nat.le_refl _,by simp,by rw[f3],fun _=>rfl,by rw[List.append_nil];rfl⟩⟩
    have htx:=zF (bx x != bx y) out6 f4 (by omega)
    rw[f5,OX] at htx
    obtain⟨hp7,fp,g1,-⟩:=om jE CD (runK (CC LT4) K) false iM (bx x != bx y) hO _ htx
    obtain⟨st,x1,x2⟩:=Ld LT4 (runK (CC LT4) K) K fr6 (hpT out6) hp7 wr6 _ _ _ _ _ _ fp f2 g1
    refine⟨st,?_,x2⟩
    have h1:af (CC LT4) (runK (CC LT4) K) K fo ⟨entry 120 [zs x,zs y],[],[]⟩=af (CC LT4) (runK (CC LT4) K) K (ah 4 fo) ⟨fr1,[],[]⟩:=aP 4 a1
    rw[h1,aP 3 b1,show ah 3 (ah 4 fo)=ah 7 fo from rfl,PN,av ((av c1).trans (bH (ca d1 (by omega)))),PM,av ((av e1).trans (bH (ca f1 (by omega))))]
    exact x1
   cases h1:(eh x).ble 9 with
   | false =>
    rw[h1] at gs1
    cases h2:(eh y).ble 9 with
    | false=>rw[h2] at gs2;exact rest _ _ false false rfl gs1 gs2
    | true=>rw[h2] at gs2;exact rest _ _ false true rfl gs1 gs2
   | true =>
    rw[h1] at gs1
    cases h2:(eh y).ble 9 with
    | false=>rw[h2] at gs2;exact rest _ _ true false rfl gs1 gs2
    | true =>
     rw[h2] at gs2
     have b1:=xF h1
     have b2:=xF h2
     have hab:(x*y).natAbs≤999999999*999999999:=by
      rw[Int.natAbs_mul]
      exact Nat.mul_le_mul (by omega) (by omega)
     exact abq LT4 (runK (CC LT4) K) K _ _ _ x y (x*y) gs1 gs2 (fh _ (by omega) (by omega)) (I5 _ (x*y) (by omega) (by omega))
  ·cases h
 ·cases h
noncomputable def iQ:Code:=Tryz.f111.body.getD .skip
noncomputable def xo:Code:=((Tryz.f111.body).bind az).getD .skip
theorem WA (L:Lst)(run:ar)(k:Nat)(fr:List PV)(l:List Nat)(h53:fr.length=53)(h3:nth fr 3 = .sc (.string (tx l)))(h4:nth fr 4=iv l.length) :
  ∃ fr',af (CC L) run k xo ⟨fr,[],[]⟩=some (.exit 0,⟨fr',[],[]⟩)∧fr'.length=53:=by
 simp only[iv] at h4
 simp[xo,Tryz.f111,az,af,aJ,ao,aq,aH,ag,ai,aj,an,aF,aC,FP.none,bd,au,bj,bM,aa,ae,ab,bh,dJ,h53,h3,h4,uAI]
set_option maxHeartbeats 1000000 in
theorem abp (L:Lst)(run:ar)(k:Nat)(fr:List PV)(l:List Nat)(i:Nat)(hl:Bok l)(hi:i<l.length)(hi9:i<20000000)(hd:ll (at0 l i)=true)(h53:fr.length=53)(h3:nth fr 3 = .sc (.string (tx l)))(h4:nth fr 4=iv i) :
  ∃ fr',af (CC L) run k xo ⟨fr,[],[]⟩=some (.normal,⟨fr',[],[]⟩)∧fr'.length=53∧nth fr' 3 = .sc (.string (tx l))∧nth fr' 4=iv (i+1):=by
 have hx:=eX uAI hl .i64 i hi
 rw[dH] at hd
 have hw:=bE i (by omega)
 generalize at0 l i=b at *
 have h1 : ¬ ((b:Int)<48):=by omega
 have h2 : ¬ ((57:Int)<b):=by omega
 simp only[iv] at h4 ⊢
 simp[xo,Tryz.f111,az,af,aJ,ao,aq,aH,ag,ai,aj,an,aF,aC,FP.none,bd,au,bj,aw,bM,aa,ae,ab,bh,dJ,h53,h3,h4,uAI,hi,hx,h1,h2,hw]
set_option maxHeartbeats 1000000 in
theorem WC (L:Lst)(run:ar)(k:Nat)(fr:List PV)(l:List Nat)(i:Nat)(hl:Bok l)(hi:i<l.length)(hd:ll (at0 l i)=false)(h53:fr.length=53)(h3:nth fr 3 = .sc (.string (tx l)))(h4:nth fr 4=iv i) :
  ∃ fr',af (CC L) run k xo ⟨fr,[],[]⟩=some (.ret,⟨fr',[],[]⟩)∧nth fr' 2 = .sc (.bool false):=by
 have hx:=eX uAI hl .i64 i hi
 generalize at0 l i=b at *
 have hd':(b:Int)<48∨(57:Int)<b:=by
  have : ¬ (48≤b∧b≤57):=fun h=>by rw[dH.2 h] at hd;cases hd
  omega
 simp only[iv] at h4
 by_cases h1:(b:Int)<48
 ·simp[xo,Tryz.f111,az,af,aJ,ao,aq,aH,ag,ai,aj,an,aF,aC,FP.none,bd,au,bj,aw,bM,aa,ae,ab,bh,dJ,h53,h3,h4,uAI,hi,hx,h1]
 ·have h2:(57:Int)<b:=by omega
  simp[xo,Tryz.f111,az,af,aJ,ao,aq,aH,ag,ai,aj,an,aF,aC,FP.none,bd,au,bj,aw,bM,aa,ae,ab,bh,dJ,h53,h3,h4,uAI,hi,hx,h1,h2]
theorem B2 (L:Lst)(run:ar)(k:Nat)(l:List Nat)(hl:Bok l)(h9:l.length<20000000):∀ (n i:Nat) (fr:List PV),i+n=l.length→fr.length=53→nth fr 3 = .sc (.string (tx l))→nth fr 4=iv i →
  (eH (l.drop i)=true∧∃ fr',cl (af (CC L) run k xo) (n+1) ⟨fr,[],[]⟩=some (.exit 0,⟨fr',[],[]⟩)∧fr'.length=53) ∨
  (eH (l.drop i)=false∧∃ fr',cl (af (CC L) run k xo) (n+1) ⟨fr,[],[]⟩=some (.ret,⟨fr',[],[]⟩)∧nth fr' 2 = .sc (.bool false))
 | 0,i,fr,hi,h53,h3,h4=>by
  have:i=l.length:=by omega
  subst this
  obtain⟨fr',g1,g2⟩:=WA L run k fr l h53 h3 h4
  exact .inl ⟨by rw[List.drop_length];rfl,fr',bD g1,g2⟩
 | n+1,i,fr,hi,h53,h3,h4=>by
  have hil:i<l.length:=by omega
  have hdr:eH (l.drop i)=(ll (at0 l i) && eH (l.drop (i+1))):=by rw[List.drop_eq_getElem_cons hil,de hil];rfl
  cases hd:ll (at0 l i) with
  | true =>
   obtain⟨fr1,g1,g2,g3,g4⟩:=abp L run k fr l i hl hil (by omega) hd h53 h3 h4
   rw[hdr,hd,Bool.true_and,ch g1]
   exact B2 L run k l hl h9 n (i+1) fr1 (by omega) g2 g3 g4
  | false =>
   obtain⟨fr1,g1,g2⟩:=WC L run k fr l i hl hil hd h53 h3 h4
   exact .inr ⟨by rw[hdr,hd];rfl,fr1,eF g1,g2⟩
noncomputable def sy:Code:=seq1 (ah 2 iQ)
noncomputable def uZ:Code:=seq1 (ah 3 iQ)
noncomputable def PH:Code:=seq1 (seq1 (ah 4 iQ))
theorem tM:ah 2 iQ = .seq sy (ah 3 iQ):=rfl
theorem Ad:ah 3 iQ = .seq uZ (ah 4 iQ):=rfl
theorem Iw:ah 4 iQ = .seq (.seq PH (.block 0 (.loop xo))) (ah 5 iQ):=rfl
theorem Wz (L:Lst)(run:ar)(k:Nat)(s:ByteArray) :
  ∃ fr,aY (CC L) run k 2 iQ ⟨entry 53 [.sc (.string s)],[],[]⟩=some ⟨fr,[],[]⟩∧fr.length=53∧nth fr 3 = .sc (.string s):=by
 obtain⟨e1,e2⟩:=cW 52 (.sc (.string s))
 generalize entry 53 [.sc (.string s)]=fr0 at *
 simp[iQ,Tryz.f111,aY,e1,e2,af,aJ,ao,aq,aH,ag,ai,aj,an,aF,aC,FP.none,aw,aa,ae,ab]
theorem Oo (l:List Nat)(k:Nat)(hp:List Blk)(h:k≤l.length):dt TT hp 94 (.sc (.string (tx l))) (some (.sc (.int .i64 (k:Int)))) none none=some (.sc (.string (tx (l.drop k)))):=by
 simp only[dt,uAI,dT,dJ,bnd,fk,bm]
 simp[tx,ff,h]
 rw[List.take_of_length_le (by simp)]
theorem afg (a:Nat):((a:Int) == 48)=a.beq 48:=by
 cases h:a.beq 48 with
 | true=>rw[Nat.eq_of_beq_eq_true h];rfl
 | false =>
  rw[beq_eq_false_iff_ne]
  intro e
  have:a=48:=by omega
  subst this;cases h
def ku:List Nat→Option (List Nat)
 | []=>some []
 | a::l=>bif a.beq 45 then (match l with
  | []=>some []
  | b::l=>bif b.beq 48 then none else some (b::l)) else some (a::l)
set_option maxHeartbeats 2000000 in
theorem abo (L:Lst)(run:ar)(k:Nat)(fr:List PV)(l:List Nat)(hl:Bok l)(h53:fr.length=53)(h3:nth fr 3 = .sc (.string (tx l))) :
  (ku l=none∧∃ fr',af (CC L) run k sy ⟨fr,[],[]⟩=some (.ret,⟨fr',[],[]⟩)∧nth fr' 2 = .sc (.bool false)) ∨
  ∃ l' fr',ku l=some l'∧af (CC L) run k sy ⟨fr,[],[]⟩=some (.normal,⟨fr',[],[]⟩)∧fr'.length=53∧nth fr' 3 = .sc (.string (tx l')):=by
 cases l with
 | nil =>
  refine .inr ⟨[],?_⟩
  simp[ku,sy,iQ,Tryz.f111,ah,seq1,af,aJ,ao,aq,aH,ag,ai,aj,an,aF,aC,FP.none,bd,au,bj,aw,bM,aa,ae,ab,bh,dJ,h53,h3,uAI,undef]
 | cons a l =>
  have hx:hZ TT 94 (.sc (.string (tx (a::l)))) (.sc (.int .i64 0))=some (.sc (.int .u8 (a:Int))):=eX uAI hl .i64 0 (by simp)
  have hp:(0:Int)<(l.length:Int)+1:=by omega
  have hb:=adq a
  have hs:dt TT [] 94 (.sc (.string (tx (a::l)))) (some (.sc (.int .i64 1))) none none=some (.sc (.string (tx l))):=Oo (a::l) 1 [] (by simp)
  cases h:a.beq 45 with
  | false =>
   rw[h] at hb
   refine .inr ⟨a::l,?_⟩
   simp[ku,h,sy,iQ,Tryz.f111,ah,seq1,af,aJ,ao,aq,aH,ag,ai,aj,an,aF,aC,FP.none,bd,au,bj,aw,bM,aa,ae,ab,bh,dJ,h53,h3,uAI,hx,hp,hb]
  | true =>
   rw[h] at hb
   cases l with
   | nil =>
    refine .inr ⟨[],?_⟩
    simp[ku,h,sy,iQ,Tryz.f111,ah,seq1,af,aJ,ao,aq,aH,ag,ai,aj,an,aF,aC,FP.none,bd,au,bj,aw,bM,aa,ae,ab,bh,dJ,h53,h3,uAI,hx,hb,hs,undef]
   | cons b l =>
    have hl2:Bok (b::l):=fun x hx=>hl x (List.mem_cons_of_mem _ hx)
    have hx2:hZ TT 94 (.sc (.string (tx (b::l)))) (.sc (.int .i64 0))=some (.sc (.int .u8 (b:Int))):=eX uAI hl2 .i64 0 (by simp)
    have hp2:(0:Int)<(l.length:Int)+1:=by omega
    have hp3:(0:Int)<(l.length:Int)+1+1:=by omega
    have hb2:=afg b
    cases h2:b.beq 48 with
    | true =>
     rw[h2] at hb2
     refine .inl ⟨by simp[ku,h,h2],?_⟩
     simp[sy,iQ,Tryz.f111,ah,seq1,af,aJ,ao,aq,aH,ag,ai,aj,an,aF,aC,FP.none,bd,au,bj,aw,bM,aa,ae,ab,bh,dJ,h53,h3,uAI,hx,hb,hs,hx2,hp2,hp3,hb2]
    | false =>
     rw[h2] at hb2
     refine .inr ⟨b::l,?_⟩
     simp[ku,h,h2,sy,iQ,Tryz.f111,ah,seq1,af,aJ,ao,aq,aH,ag,ai,aj,an,aF,aC,FP.none,bd,au,bj,aw,bM,aa,ae,ab,bh,dJ,h53,h3,uAI,hx,hb,hs,hx2,hp2,hp3,hb2]
def vHd:List Nat→Bool
 | []=>true
 | [_]=>false
 | a::_::_=>a.beq 48
set_option maxHeartbeats 2000000 in
theorem abn (L:Lst)(run:ar)(k:Nat)(fr:List PV)(l:List Nat)(hl:Bok l)(h53:fr.length=53)(h3:nth fr 3 = .sc (.string (tx l))) :
  (vHd l=true∧∃ fr',af (CC L) run k uZ ⟨fr,[],[]⟩=some (.ret,⟨fr',[],[]⟩)∧nth fr' 2 = .sc (.bool false)) ∨
  (vHd l=false∧∃ fr',af (CC L) run k uZ ⟨fr,[],[]⟩=some (.normal,⟨fr',[],[]⟩)∧fr'.length=53∧nth fr' 3 = .sc (.string (tx l))):=by
 cases l with
 | nil =>
  refine .inl ⟨rfl,?_⟩
  simp[uZ,iQ,Tryz.f111,ah,seq1,af,aJ,ao,aq,aH,ag,ai,aj,an,aF,aC,FP.none,bd,au,bj,aw,bM,aa,ae,ab,bh,dJ,h53,h3,uAI,undef]
 | cons a l =>
  have hx:hZ TT 94 (.sc (.string (tx (a::l)))) (.sc (.int .i64 0))=some (.sc (.int .u8 (a:Int))):=eX uAI hl .i64 0 (by simp)
  have hb:=afg a
  cases l with
  | nil =>
   refine .inr ⟨rfl,?_⟩
   cases h:a.beq 48 <;> rw[h] at hb <;> simp[uZ,iQ,Tryz.f111,ah,seq1,af,aJ,ao,aq,aH,ag,ai,aj,an,aF,aC,FP.none,bd,au,bj,aw,bM,aa,ae,ab,bh,dJ,h53,h3,uAI,hx,hb,undef]
  | cons b l =>
   have hne:((l.length:Int)+1+1 == 0)=false:=by rw[beq_eq_false_iff_ne];omega
   have hne2 : ¬ ((l.length:Int)+1+1=0):=by omega
   have hlt:(1:Int)<(l.length:Int)+1+1:=by omega
   cases h:a.beq 48 with
   | true =>
    rw[h] at hb
    refine .inl ⟨h,?_⟩
    simp[uZ,iQ,Tryz.f111,ah,seq1,af,aJ,ao,aq,aH,ag,ai,aj,an,aF,aC,FP.none,bd,au,bj,aw,bM,aa,ae,ab,bh,dJ,h53,h3,uAI,hx,hb,hne,hlt]
   | false =>
    rw[h] at hb
    refine .inr ⟨h,?_⟩
    simp[uZ,iQ,Tryz.f111,ah,seq1,af,aJ,ao,aq,aH,ag,ai,aj,an,aF,aC,FP.none,bd,au,bj,aw,bM,aa,ae,ab,bh,dJ,h53,h3,uAI,hx,hb,hne,undef]
theorem abm (L:Lst)(run:ar)(k:Nat)(fr:List PV)(h53:fr.length=53) :
  ∃ fr',af (CC L) run k PH ⟨fr,[],[]⟩=some (.normal,⟨fr',[],[]⟩)∧fr'.length=53∧nth fr' 3=nth fr 3∧nth fr' 4=iv 0:=by
 simp[PH,iQ,Tryz.f111,ah,seq1,af,aJ,ao,aq,aH,ag,ai,aj,an,aF,aC,FP.none,aw,aa,ae,ab,h53,iv]
theorem PG (L:Lst)(run:ar)(k:Nat)(fr:List PV)(h53:fr.length=53) :
  ∃ st,af (CC L) run k (ah 5 iQ) ⟨fr,[],[]⟩=some (.ret,st)∧aZ TT st.fr st.hp Tryz.f111.results.toList=some [.sc (.bool true)]:=by
 simp[iQ,Tryz.f111,ah,af,aJ,ao,aq,aH,ag,ai,aj,an,aF,aC,FP.none,aw,aa,h53,aZ]
def kP (l:List Nat):Bool:=match ku l with
 | none=>false
 | some l' => !vHd l' && eH l'
def PI:List PV→Option (List PV)
 | [.sc (.string s)]=>bif (bys s).length.blt 20000000 then some [.sc (.bool (kP (bys s)))] else none
 | _=>none
theorem Ae (fr:List PV)(h2:nth fr 2 = .sc (.bool false)):aZ TT fr [] Tryz.f111.results.toList=some [.sc (.bool false)]:=by
 simp[Tryz.f111,aZ,h2]
theorem VC {l l':List Nat}(h:ku l=some l')(hl:Bok l):Bok l'∧l'.length≤l.length:=by
 cases l with
 | nil=>simp only[ku,Option.some.injEq] at h;subst h;exact⟨hl,Nat.le_refl _⟩
 | cons a l =>
  cases ha:a.beq 45 with
  | false=>simp only[ku,ha,cond_false,Option.some.injEq] at h;subst h;exact⟨hl,Nat.le_refl _⟩
  | true =>
   cases l with
   | nil=>simp only[ku,ha,cond_true,Option.some.injEq] at h;subst h;exact⟨Bok.nil,Nat.zero_le _⟩
   | cons b l =>
    cases hb:b.beq 48 with
    | true=>simp[ku,ha,hb] at h
    | false =>
     simp only[ku,ha,hb,cond_true,cond_false,Option.some.injEq] at h
     subst h
     exact⟨fun x hx=>hl x (List.mem_cons_of_mem _ hx),by simp⟩
theorem PE:Ab.Spec base.P 111 PI:=Ab.Spec.bQ (C:=CC []) (cV trivial) fun args rs h=>by
 unfold PI at h
 split at h
 ·rename_i s
  cases hb:(bys s).length.blt 20000000 with
  | false=>rw[hb] at h;cases h
  | true =>
   rw[hb] at h
   simp only[cond_true,Option.some.injEq] at h
   subst h
   rw[Nat.blt_eq] at hb
   have hok:=mh s
   obtain⟨f1,a1,a2,a3⟩:=Wz [] (runK (CC []) 20000000) 20000000 s
   rw[← il s] at a3
   rcases abo [] (runK (CC []) 20000000) 20000000 f1 (bys s) hok a2 a3 with ⟨hc,f2,b1,b2⟩| ⟨l',f2,hc,b1,b2,b3⟩
   ·have hv:kP (bys s)=false:=by rw[kP,hc]
    have hx:af (CC []) (runK (CC []) 20000000) 20000000 iQ ⟨entry 53 [.sc (.string s)],[],[]⟩=some (.ret,⟨f2,[],[]⟩):=by
     rw[aP 2 a1,tM,cB b1]
    rw[hv]
    exact⟨20000001,_,_,_,_,_,aX jC rfl hx (Ae f2 b2),rfl,Wk.refl rfl,trivial⟩
   ·obtain⟨hok',hlen⟩:=VC hc hok
    rcases abn [] (runK (CC []) 20000000) 20000000 f2 l' hok' b2 b3 with ⟨hh,f3,c1,c2⟩| ⟨hh,f3,c1,c2,c3⟩
    ·have hv:kP (bys s)=false:=by rw[kP,hc];simp[hh]
     have hx:af (CC []) (runK (CC []) 20000000) 20000000 iQ ⟨entry 53 [.sc (.string s)],[],[]⟩=some (.ret,⟨f3,[],[]⟩):=by
      rw[aP 2 a1,tM,av b1,Ad,cB c1]
     rw[hv]
     exact⟨20000001,_,_,_,_,_,aX jC rfl hx (Ae f3 c2),rfl,Wk.refl rfl,trivial⟩
    ·obtain⟨f4,d1,d2,d3,d4⟩:=abm [] (runK (CC []) 20000000) 20000000 f3 c2
     rcases B2 [] (runK (CC []) 20000000) 20000000 l' hok' (by omega) l'.length 0 f4 (by omega) d2 (by rw[d3,c3]) d4 with ⟨hd,f5,e1,e2⟩| ⟨hd,f5,e1,e2⟩
     ·rw[List.drop_zero] at hd
      have hv:kP (bys s)=true:=by rw[kP,hc];simp[hh,hd]
      obtain⟨st,x1,x2⟩:=PG [] (runK (CC []) 20000000) 20000000 f5 e2
      have hx:af (CC []) (runK (CC []) 20000000) 20000000 iQ ⟨entry 53 [.sc (.string s)],[],[]⟩=some (.ret,st):=by
       rw[aP 2 a1,tM,av b1,Ad,av c1,Iw,av ((av d1).trans (bH (ca e1 (by omega))))]
       exact x1
      rw[hv]
      exact⟨20000001,_,_,_,_,_,aX jC rfl hx x2,rfl,Wk.refl rfl,trivial⟩
     ·rw[List.drop_zero] at hd
      have hv:kP (bys s)=false:=by rw[kP,hc];simp[hd]
      have hx:af (CC []) (runK (CC []) 20000000) 20000000 iQ ⟨entry 53 [.sc (.string s)],[],[]⟩=some (.ret,⟨f5,[],[]⟩):=by
       rw[aP 2 a1,tM,av b1,Ad,av c1,Iw]
       exact cB ((av d1).trans (da (ca e1 (by omega))))
      rw[hv]
      exact⟨20000001,_,_,_,_,_,aX jC rfl hx (Ae f5 e2),rfl,Wk.refl rfl,trivial⟩
 ·cases h
end Go.Proofs.YtjdmodeenbdfpaaGreat
