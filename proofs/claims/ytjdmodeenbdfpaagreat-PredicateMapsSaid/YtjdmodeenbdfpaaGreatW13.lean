/- Contracts of num's integers, part 13; each lemma states its conditions. -/
import Derived.Test.YtjdmodeenbdfpaaGreatW12
set_option linter.unusedSimpArgs false
set_option linter.unusedVariables false
noncomputable section
namespace Go.Proofs.YtjdmodeenbdfpaaGreat
open Go Go.Ab Tryz
attribute [local simp] FP.free FzZ a32 aA aC aF aG aH aP aU aX aZ aa ab ae af ag ah ai aj an and_assoc ao aq au av bf bg bh dI number partOf s32 u32 u64 uD
def gZ:Code:=f182.body.getD .skip
def eg:Code:=((f182.body).bind aA).getD .skip
def dn:Code:=match eg with | .seq _ (.seq (.block _ c) _)=>c | c=>c
def kR:Code:=(aA dn).getD .skip
def nQ:Code:=(aA (ag 4 dn)).getD .skip
def Ax:Code:=(aA (ag 6 dn)).getD .skip
theorem PM:base.F.get 182=some f182:=by kernel_rfl
theorem QI:und TT 2=some (.int .i64):=by kernel_rfl
theorem YP:base.shared 182=false:=by kernel_rfl
abbrev hpL (b1:Blk)(u q:Ω):Θ:=[⟨.live,u.map dg⟩,b1,⟨.live,q.map dg⟩]
abbrev iI (n:Nat):PV:=.sc (.int .i64 (n:Int))
abbrev iU (n:Nat):PV:=.sc (.int .u64 (n:Int))
def LF (fr:Ψ)(nu m:Nat)(k v:PV)(n j:Nat):Prop :=
 fr.length=239∧nth fr 4 = .own 2 1 0 m true∧nth fr 6=k∧nth fr 7 = .own 0 1 0 nu false∧nth fr 8=v∧nth fr 9=iI n∧nth fr 10=iI j
theorem leB (n:Nat):((1000000000:Int)≤(n:Int))=(1000000000≤n):=by apply propext;omega
set_option maxHeartbeats 4000000 in
theorem aa1 (L:Lst)(run:aw)(kk:Nat)(fr:Ψ)(b1:Blk)(wr:Ω)(u v q:Ω)(m n j p p1 n1 top v1:Nat)(k:PV)(hu:Dok u)(hv:Dok v)(hvl:v.length=n)(hul:u.length<1000001)
  (hp:p=j+n) (hp1:p=p1+1) (hn1:n=n1+1) (hpu:p<u.length) (ht:top=at0 u p*1000000000+at0 u p1) (hv1:v1=at0 v n1) (hv0:0<v1)
  (h:LF fr u.length m k (.imm n false (v.map dg)) n j) :
  ∃ fr',ba (CC L) run kk 2 dn ⟨fr,hpL b1 u q,wr⟩=some ⟨fr',hpL b1 u q,wr⟩∧LF fr' u.length m k (.imm n false (v.map dg)) n j∧nth fr' 12=iU (top / v1)∧nth fr' 13=iU (top % v1):=by
 obtain⟨h0,h4,h6,h7,h8,h9,h10⟩:=h
 have hp1u:p1<u.length:=by omega
 have hnv:n1<v.length:=by omega
 have hd1:=cY u p hpu
 have hd2:=cY u p1 hp1u
 have hd3:=cY v n1 hnv
 have a1:=cu hu p
 have a2:=cu hu p1
 have a3:=cu hv n1
 rw[← hv1] at hd3 a3
 generalize at0 u p=x1 at *
 generalize at0 u p1=x2 at *
 obtain⟨s1,hs1⟩:∃ s1,s1=x1*1000000000:=⟨_,rfl⟩
 rw[← hs1] at ht
 have hwp:=dA .i64 j n p hp (hiI (by omega))
 have hwp1:bF .i64 ((p:Int) - 1)=(p1:Int):=by rw[cM p (by omega)];omega
 have hwn1:bF .i64 ((n:Int) - 1)=(n1:Int):=by rw[cM n (by omega)];omega
 have hw0:=cq .u64 x1 (dC (by omega))
 have hw1:=l9 .u64 x1 s1 hs1 (dC (by omega))
 have hw2:=cq .u64 x2 (dC (by omega))
 have hw3:=dA .u64 s1 x2 top ht (dC (by omega))
 have hw4:=cq .u64 v1 (dC (by omega))
 obtain⟨g,hg⟩:∃ g,g=top / v1:=⟨_,rfl⟩
 obtain⟨r,hr⟩:∃ r,r=top % v1:=⟨_,rfl⟩
 have hg2:g≤top:=hg ▸ Nat.div_le_self _ _
 have hw5:=acM .u64 top v1 g hg (dC (by omega))
 have hw6:=C8 top v1 r hr
 have hnl:n1<n:=by omega
 have hv00 : ¬ (v1=0):=by omega
 rw[← hg,← hr]
 clear hg hr ht
 simp[LF,dn,eg,f182,ba,h0,h4,h6,h7,h8,h9,h10,hpu,hp1u,hnl,hd1,hd2,hd3,hwp,hwp1,hwn1,hw0,hw1,hw2,hw3,hw4,hw5,hw6,hv00,cD,FP.apart]
set_option maxHeartbeats 4000000 in
theorem Oq (L:Lst)(run:aw)(kk:Nat)(fr:Ψ)(b1:Blk)(wr:Ω)(u v q:Ω)(m n j p p2 n1 n2 g rest v1 v2 u2:Nat)(k:PV)(hu:Dok u)(hv:Dok v)(hvl:v.length=n)(hul:u.length<1000001)
  (hp:p=j+n) (hp2:p=p2+2) (hn1:n=n1+1) (hn2:n=n2+2) (hpu:p<u.length) (hv1:v1=at0 v n1) (hv2:v2=at0 v n2) (hu2:u2=at0 u p2) (hg9:g≤1000000001) (hr9:rest<1000000000)
  (h:LF fr u.length m k (.imm n false (v.map dg)) n j) (h12:nth fr 12=iU g) (h13:nth fr 13=iU rest)
  (hc:g<1000000000) (hc2:g*v2≤rest*1000000000+u2) :
  ∃ fr',af (CC L) run kk kR ⟨fr,hpL b1 u q,wr⟩=some (.exit 2,⟨fr',hpL b1 u q,wr⟩)∧LF fr' u.length m k (.imm n false (v.map dg)) n j∧nth fr' 12=iU g:=by
 obtain⟨h0,h4,h6,h7,h8,h9,h10⟩:=h
 have hp2u:p2<u.length:=by omega
 have hnv1:n1<v.length:=by omega
 have hnv2:n2<v.length:=by omega
 have hnl1:n1<n:=by omega
 have hnl2:n2<n:=by omega
 have hd1:=cY u p2 hp2u
 have hd2:=cY v n1 hnv1
 have hd3:=cY v n2 hnv2
 have a1:=cu hu p2
 have a2:=cu hv n1
 have a3:=cu hv n2
 rw[← hu2] at hd1 a1
 rw[← hv1] at hd2 a2
 rw[← hv2] at hd3 a3
 have hwp:=dA .i64 j n p hp (hiI (by omega))
 have hwp2:bF .i64 ((p:Int) - 2)=(p2:Int):=by
  rw[show ((p:Int) - 2)=(p2:Int) by omega];exact cq .i64 p2 (hiI (by omega))
 have hwn1:bF .i64 ((n:Int) - 1)=(n1:Int):=by rw[cM n (by omega)];omega
 have hwn2:bF .i64 ((n:Int) - 2)=(n2:Int):=by
  rw[show ((n:Int) - 2)=(n2:Int) by omega];exact cq .i64 n2 (hiI (by omega))
 have hgv:g*v2≤1000000001*999999999:=Nat.mul_le_mul hg9 (by omega)
 obtain⟨s1,hs1⟩:∃ s1,s1=g*v2:=⟨_,rfl⟩
 obtain⟨s2,hs2⟩:∃ s2,s2=rest*1000000000:=⟨_,rfl⟩
 obtain⟨s3,hs3⟩:∃ s3,s3=s2+u2:=⟨_,rfl⟩
 obtain⟨s4,hs4⟩:∃ s4,s4=rest+v1:=⟨_,rfl⟩
 have hw0:=cq .u64 v2 (dC (by omega))
 have hw1:=cq .u64 v1 (dC (by omega))
 have hw2:=cq .u64 u2 (dC (by omega))
 have hw3:=wrapM .u64 g v2 s1 hs1 (dC (by omega))
 have hw4:=l9 .u64 rest s2 hs2 (dC (by omega))
 have hw5:=dA .u64 s2 u2 s3 hs3 (dC (by omega))
 have hw6:=dA .u64 rest v1 s4 hs4 (dC (by omega))
 have hgB : ¬ (1000000000≤g):=by omega
 have hcmp : ¬ (s3<s1):=by omega
 simp[LF,kR,dn,eg,f182,h0,h4,h6,h7,h8,h9,h10,h12,h13,hp2u,hnl2,hd1,hd3,hwp,hwp2,hwn2,hw0,hw2,hw3,hw4,hw5,hgB,hcmp,leB]
set_option maxHeartbeats 4000000 in
theorem U6 (L:Lst)(run:aw)(kk:Nat)(fr:Ψ)(b1:Blk)(wr:Ω)(u v q:Ω)(m n j p p2 n1 n2 g rest v1 v2 u2:Nat)(k:PV)(hu:Dok u)(hv:Dok v)(hvl:v.length=n)(hul:u.length<1000001)
  (hp:p=j+n) (hp2:p=p2+2) (hn1:n=n1+1) (hn2:n=n2+2) (hpu:p<u.length) (hv1:v1=at0 v n1) (hv2:v2=at0 v n2) (hu2:u2=at0 u p2) (hg9:g≤1000000001) (hr9:rest<1000000000)
  (h:LF fr u.length m k (.imm n false (v.map dg)) n j) (h12:nth fr 12=iU g) (h13:nth fr 13=iU rest)
  (hc:1000000000≤g) (hn:rest+v1<1000000000) (hg0:0<g) :
  ∃ fr',af (CC L) run kk kR ⟨fr,hpL b1 u q,wr⟩=some (.normal,⟨fr',hpL b1 u q,wr⟩)∧LF fr' u.length m k (.imm n false (v.map dg)) n j∧nth fr' 12=iU (g - 1)∧nth fr' 13=iU (rest+v1):=by
 obtain⟨h0,h4,h6,h7,h8,h9,h10⟩:=h
 have hp2u:p2<u.length:=by omega
 have hnv1:n1<v.length:=by omega
 have hnv2:n2<v.length:=by omega
 have hnl1:n1<n:=by omega
 have hnl2:n2<n:=by omega
 have hd1:=cY u p2 hp2u
 have hd2:=cY v n1 hnv1
 have hd3:=cY v n2 hnv2
 have a1:=cu hu p2
 have a2:=cu hv n1
 have a3:=cu hv n2
 rw[← hu2] at hd1 a1
 rw[← hv1] at hd2 a2
 rw[← hv2] at hd3 a3
 have hwp:=dA .i64 j n p hp (hiI (by omega))
 have hwp2:bF .i64 ((p:Int) - 2)=(p2:Int):=by
  rw[show ((p:Int) - 2)=(p2:Int) by omega];exact cq .i64 p2 (hiI (by omega))
 have hwn1:bF .i64 ((n:Int) - 1)=(n1:Int):=by rw[cM n (by omega)];omega
 have hwn2:bF .i64 ((n:Int) - 2)=(n2:Int):=by
  rw[show ((n:Int) - 2)=(n2:Int) by omega];exact cq .i64 n2 (hiI (by omega))
 have hgv:g*v2≤1000000001*999999999:=Nat.mul_le_mul hg9 (by omega)
 obtain⟨s1,hs1⟩:∃ s1,s1=g*v2:=⟨_,rfl⟩
 obtain⟨s2,hs2⟩:∃ s2,s2=rest*1000000000:=⟨_,rfl⟩
 obtain⟨s3,hs3⟩:∃ s3,s3=s2+u2:=⟨_,rfl⟩
 obtain⟨s4,hs4⟩:∃ s4,s4=rest+v1:=⟨_,rfl⟩
 have hw0:=cq .u64 v2 (dC (by omega))
 have hw1:=cq .u64 v1 (dC (by omega))
 have hw2:=cq .u64 u2 (dC (by omega))
 have hw3:=wrapM .u64 g v2 s1 hs1 (dC (by omega))
 have hw4:=l9 .u64 rest s2 hs2 (dC (by omega))
 have hw5:=dA .u64 s2 u2 s3 hs3 (dC (by omega))
 have hw6:=dA .u64 rest v1 s4 hs4 (dC (by omega))
 obtain⟨g',hg'⟩:∃ g',g'=g - 1:=⟨_,rfl⟩
 have hw7:bF .u64 ((g:Int) - 1)=(g':Int):=by
  rw[show ((g:Int) - 1)=(g':Int) by omega];exact cq .u64 g' (dC (by omega))
 rw[← hg',← hs4]
 have hnB : ¬ (1000000000≤s4):=by omega
 simp[LF,kR,dn,eg,f182,h0,h4,h6,h7,h8,h9,h10,h12,h13,hnl1,hd2,hwn1,hw1,hw6,hc,hnB,hw7,leB]
set_option maxHeartbeats 4000000 in
theorem OA (L:Lst)(run:aw)(kk:Nat)(fr:Ψ)(b1:Blk)(wr:Ω)(u v q:Ω)(m n j p p2 n1 n2 g rest v1 v2 u2:Nat)(k:PV)(hu:Dok u)(hv:Dok v)(hvl:v.length=n)(hul:u.length<1000001)
  (hp:p=j+n) (hp2:p=p2+2) (hn1:n=n1+1) (hn2:n=n2+2) (hpu:p<u.length) (hv1:v1=at0 v n1) (hv2:v2=at0 v n2) (hu2:u2=at0 u p2) (hg9:g≤1000000001) (hr9:rest<1000000000)
  (h:LF fr u.length m k (.imm n false (v.map dg)) n j) (h12:nth fr 12=iU g) (h13:nth fr 13=iU rest)
  (hc:1000000000≤g) (hn:1000000000≤rest+v1) (hg0:0<g) :
  ∃ fr',af (CC L) run kk kR ⟨fr,hpL b1 u q,wr⟩=some (.exit 2,⟨fr',hpL b1 u q,wr⟩)∧LF fr' u.length m k (.imm n false (v.map dg)) n j∧nth fr' 12=iU (g - 1)∧nth fr' 13=iU (rest+v1):=by
 obtain⟨h0,h4,h6,h7,h8,h9,h10⟩:=h
 have hp2u:p2<u.length:=by omega
 have hnv1:n1<v.length:=by omega
 have hnv2:n2<v.length:=by omega
 have hnl1:n1<n:=by omega
 have hnl2:n2<n:=by omega
 have hd1:=cY u p2 hp2u
 have hd2:=cY v n1 hnv1
 have hd3:=cY v n2 hnv2
 have a1:=cu hu p2
 have a2:=cu hv n1
 have a3:=cu hv n2
 rw[← hu2] at hd1 a1
 rw[← hv1] at hd2 a2
 rw[← hv2] at hd3 a3
 have hwp:=dA .i64 j n p hp (hiI (by omega))
 have hwp2:bF .i64 ((p:Int) - 2)=(p2:Int):=by
  rw[show ((p:Int) - 2)=(p2:Int) by omega];exact cq .i64 p2 (hiI (by omega))
 have hwn1:bF .i64 ((n:Int) - 1)=(n1:Int):=by rw[cM n (by omega)];omega
 have hwn2:bF .i64 ((n:Int) - 2)=(n2:Int):=by
  rw[show ((n:Int) - 2)=(n2:Int) by omega];exact cq .i64 n2 (hiI (by omega))
 have hgv:g*v2≤1000000001*999999999:=Nat.mul_le_mul hg9 (by omega)
 obtain⟨s1,hs1⟩:∃ s1,s1=g*v2:=⟨_,rfl⟩
 obtain⟨s2,hs2⟩:∃ s2,s2=rest*1000000000:=⟨_,rfl⟩
 obtain⟨s3,hs3⟩:∃ s3,s3=s2+u2:=⟨_,rfl⟩
 obtain⟨s4,hs4⟩:∃ s4,s4=rest+v1:=⟨_,rfl⟩
 have hw0:=cq .u64 v2 (dC (by omega))
 have hw1:=cq .u64 v1 (dC (by omega))
 have hw2:=cq .u64 u2 (dC (by omega))
 have hw3:=wrapM .u64 g v2 s1 hs1 (dC (by omega))
 have hw4:=l9 .u64 rest s2 hs2 (dC (by omega))
 have hw5:=dA .u64 s2 u2 s3 hs3 (dC (by omega))
 have hw6:=dA .u64 rest v1 s4 hs4 (dC (by omega))
 obtain⟨g',hg'⟩:∃ g',g'=g - 1:=⟨_,rfl⟩
 have hw7:bF .u64 ((g:Int) - 1)=(g':Int):=by
  rw[show ((g:Int) - 1)=(g':Int) by omega];exact cq .u64 g' (dC (by omega))
 rw[← hg',← hs4]
 have hnB:1000000000≤s4:=by omega
 simp[LF,kR,dn,eg,f182,h0,h4,h6,h7,h8,h9,h10,h12,h13,hnl1,hd2,hwn1,hw1,hw6,hc,hnB,hw7,leB]
set_option maxHeartbeats 4000000 in
theorem U5 (L:Lst)(run:aw)(kk:Nat)(fr:Ψ)(b1:Blk)(wr:Ω)(u v q:Ω)(m n j p p2 n1 n2 g rest v1 v2 u2:Nat)(k:PV)(hu:Dok u)(hv:Dok v)(hvl:v.length=n)(hul:u.length<1000001)
  (hp:p=j+n) (hp2:p=p2+2) (hn1:n=n1+1) (hn2:n=n2+2) (hpu:p<u.length) (hv1:v1=at0 v n1) (hv2:v2=at0 v n2) (hu2:u2=at0 u p2) (hg9:g≤1000000001) (hr9:rest<1000000000)
  (h:LF fr u.length m k (.imm n false (v.map dg)) n j) (h12:nth fr 12=iU g) (h13:nth fr 13=iU rest)
  (hc:g<1000000000) (hc2:rest*1000000000+u2<g*v2) (hn:rest+v1<1000000000) (hg0:0<g) :
  ∃ fr',af (CC L) run kk kR ⟨fr,hpL b1 u q,wr⟩=some (.normal,⟨fr',hpL b1 u q,wr⟩)∧LF fr' u.length m k (.imm n false (v.map dg)) n j∧nth fr' 12=iU (g - 1)∧nth fr' 13=iU (rest+v1):=by
 obtain⟨h0,h4,h6,h7,h8,h9,h10⟩:=h
 have hp2u:p2<u.length:=by omega
 have hnv1:n1<v.length:=by omega
 have hnv2:n2<v.length:=by omega
 have hnl1:n1<n:=by omega
 have hnl2:n2<n:=by omega
 have hd1:=cY u p2 hp2u
 have hd2:=cY v n1 hnv1
 have hd3:=cY v n2 hnv2
 have a1:=cu hu p2
 have a2:=cu hv n1
 have a3:=cu hv n2
 rw[← hu2] at hd1 a1
 rw[← hv1] at hd2 a2
 rw[← hv2] at hd3 a3
 have hwp:=dA .i64 j n p hp (hiI (by omega))
 have hwp2:bF .i64 ((p:Int) - 2)=(p2:Int):=by
  rw[show ((p:Int) - 2)=(p2:Int) by omega];exact cq .i64 p2 (hiI (by omega))
 have hwn1:bF .i64 ((n:Int) - 1)=(n1:Int):=by rw[cM n (by omega)];omega
 have hwn2:bF .i64 ((n:Int) - 2)=(n2:Int):=by
  rw[show ((n:Int) - 2)=(n2:Int) by omega];exact cq .i64 n2 (hiI (by omega))
 have hgv:g*v2≤1000000001*999999999:=Nat.mul_le_mul hg9 (by omega)
 obtain⟨s1,hs1⟩:∃ s1,s1=g*v2:=⟨_,rfl⟩
 obtain⟨s2,hs2⟩:∃ s2,s2=rest*1000000000:=⟨_,rfl⟩
 obtain⟨s3,hs3⟩:∃ s3,s3=s2+u2:=⟨_,rfl⟩
 obtain⟨s4,hs4⟩:∃ s4,s4=rest+v1:=⟨_,rfl⟩
 have hw0:=cq .u64 v2 (dC (by omega))
 have hw1:=cq .u64 v1 (dC (by omega))
 have hw2:=cq .u64 u2 (dC (by omega))
 have hw3:=wrapM .u64 g v2 s1 hs1 (dC (by omega))
 have hw4:=l9 .u64 rest s2 hs2 (dC (by omega))
 have hw5:=dA .u64 s2 u2 s3 hs3 (dC (by omega))
 have hw6:=dA .u64 rest v1 s4 hs4 (dC (by omega))
 have hgB : ¬ (1000000000≤g):=by omega
 have hcmp:s3<s1:=by omega
 obtain⟨g',hg'⟩:∃ g',g'=g - 1:=⟨_,rfl⟩
 have hw7:bF .u64 ((g:Int) - 1)=(g':Int):=by
  rw[show ((g:Int) - 1)=(g':Int) by omega];exact cq .u64 g' (dC (by omega))
 rw[← hg',← hs4]
 have hnB : ¬ (1000000000≤s4):=by omega
 simp[LF,kR,dn,eg,f182,h0,h4,h6,h7,h8,h9,h10,h12,h13,hp2u,hnl1,hnl2,hd1,hd2,hd3,hwp,hwp2,hwn1,hwn2,hw0,hw1,hw2,hw3,hw4,hw5,hw6,hgB,hcmp,hnB,hw7,leB]
set_option maxHeartbeats 4000000 in
theorem Oz (L:Lst)(run:aw)(kk:Nat)(fr:Ψ)(b1:Blk)(wr:Ω)(u v q:Ω)(m n j p p2 n1 n2 g rest v1 v2 u2:Nat)(k:PV)(hu:Dok u)(hv:Dok v)(hvl:v.length=n)(hul:u.length<1000001)
  (hp:p=j+n) (hp2:p=p2+2) (hn1:n=n1+1) (hn2:n=n2+2) (hpu:p<u.length) (hv1:v1=at0 v n1) (hv2:v2=at0 v n2) (hu2:u2=at0 u p2) (hg9:g≤1000000001) (hr9:rest<1000000000)
  (h:LF fr u.length m k (.imm n false (v.map dg)) n j) (h12:nth fr 12=iU g) (h13:nth fr 13=iU rest)
  (hc:g<1000000000) (hc2:rest*1000000000+u2<g*v2) (hn:1000000000≤rest+v1) (hg0:0<g) :
  ∃ fr',af (CC L) run kk kR ⟨fr,hpL b1 u q,wr⟩=some (.exit 2,⟨fr',hpL b1 u q,wr⟩)∧LF fr' u.length m k (.imm n false (v.map dg)) n j∧nth fr' 12=iU (g - 1)∧nth fr' 13=iU (rest+v1):=by
 obtain⟨h0,h4,h6,h7,h8,h9,h10⟩:=h
 have hp2u:p2<u.length:=by omega
 have hnv1:n1<v.length:=by omega
 have hnv2:n2<v.length:=by omega
 have hnl1:n1<n:=by omega
 have hnl2:n2<n:=by omega
 have hd1:=cY u p2 hp2u
 have hd2:=cY v n1 hnv1
 have hd3:=cY v n2 hnv2
 have a1:=cu hu p2
 have a2:=cu hv n1
 have a3:=cu hv n2
 rw[← hu2] at hd1 a1
 rw[← hv1] at hd2 a2
 rw[← hv2] at hd3 a3
 have hwp:=dA .i64 j n p hp (hiI (by omega))
 have hwp2:bF .i64 ((p:Int) - 2)=(p2:Int):=by
  rw[show ((p:Int) - 2)=(p2:Int) by omega];exact cq .i64 p2 (hiI (by omega))
 have hwn1:bF .i64 ((n:Int) - 1)=(n1:Int):=by rw[cM n (by omega)];omega
 have hwn2:bF .i64 ((n:Int) - 2)=(n2:Int):=by
  rw[show ((n:Int) - 2)=(n2:Int) by omega];exact cq .i64 n2 (hiI (by omega))
 have hgv:g*v2≤1000000001*999999999:=Nat.mul_le_mul hg9 (by omega)
 obtain⟨s1,hs1⟩:∃ s1,s1=g*v2:=⟨_,rfl⟩
 obtain⟨s2,hs2⟩:∃ s2,s2=rest*1000000000:=⟨_,rfl⟩
 obtain⟨s3,hs3⟩:∃ s3,s3=s2+u2:=⟨_,rfl⟩
 obtain⟨s4,hs4⟩:∃ s4,s4=rest+v1:=⟨_,rfl⟩
 have hw0:=cq .u64 v2 (dC (by omega))
 have hw1:=cq .u64 v1 (dC (by omega))
 have hw2:=cq .u64 u2 (dC (by omega))
 have hw3:=wrapM .u64 g v2 s1 hs1 (dC (by omega))
 have hw4:=l9 .u64 rest s2 hs2 (dC (by omega))
 have hw5:=dA .u64 s2 u2 s3 hs3 (dC (by omega))
 have hw6:=dA .u64 rest v1 s4 hs4 (dC (by omega))
 have hgB : ¬ (1000000000≤g):=by omega
 have hcmp:s3<s1:=by omega
 obtain⟨g',hg'⟩:∃ g',g'=g - 1:=⟨_,rfl⟩
 have hw7:bF .u64 ((g:Int) - 1)=(g':Int):=by
  rw[show ((g:Int) - 1)=(g':Int) by omega];exact cq .u64 g' (dC (by omega))
 rw[← hg',← hs4]
 have hnB:1000000000≤s4:=by omega
 simp[LF,kR,dn,eg,f182,h0,h4,h6,h7,h8,h9,h10,h12,h13,hp2u,hnl1,hnl2,hd1,hd2,hd3,hwp,hwp2,hwn1,hwn2,hw0,hw1,hw2,hw3,hw4,hw5,hw6,hgB,hcmp,hnB,hw7,leB]
theorem xA (L:Lst)(run:aw)(kk:Nat)(b1:Blk)(wr:Ω)(u v q:Ω)(m n j p p2 n1 n2 v1 v2 u2 top:Nat)(k:PV)(hu:Dok u)(hv:Dok v)(hvl:v.length=n)(hul:u.length<1000001)
  (hp:p=j+n) (hp2:p=p2+2) (hn1:n=n1+1) (hn2:n=n2+2) (hpu:p<u.length) (hv1:v1=at0 v n1) (hv2:v2=at0 v n2) (hu2:u2=at0 u p2) (ht:top≤v1*1000000000+999999999) (h5:500000000≤v1) :
  ∀ (f:Nat) (fr:Ψ) (g rest:Nat),rest<1000000000→1000000000≤rest+f*500000000→g≤1000000001→GI top v1 v2 u2 g rest→LF fr u.length m k (.imm n false (v.map dg)) n j→nth fr 12=iU g→nth fr 13=iU rest →
  ∃ fr' g',ch (af (CC L) run kk kR) f ⟨fr,hpL b1 u q,wr⟩=some (.exit 2,⟨fr',hpL b1 u q,wr⟩)∧LF fr' u.length m k (.imm n false (v.map dg)) n j∧nth fr' 12=iU g'∧GF top v1 v2 u2 g'
 | 0,fr,g,rest,hr,hf,hg,hG,h,h12,h13=>by omega
 | f+1,fr,g,rest,hr,hf,hg,hG,h,h12,h13=>by
  have a3:v2<1000000000:=hv2 ▸ cu hv n2
  by_cases hc:1000000000≤g∨rest*1000000000+u2<g*v2
  ·obtain⟨hg0,hG'⟩:=hG.step hc
   by_cases hn:rest+v1<1000000000
   ·obtain⟨fr1,q1,q2,q3,q4⟩:∃ fr',af (CC L) run kk kR ⟨fr,hpL b1 u q,wr⟩=some (.normal,⟨fr',hpL b1 u q,wr⟩)∧LF fr' u.length m k (.imm n false (v.map dg)) n j∧nth fr' 12=iU (g - 1)∧nth fr' 13=iU (rest+v1):=by
     by_cases hc1:1000000000≤g
     ·exact U6 L run kk fr b1 wr u v q m n j p p2 n1 n2 g rest v1 v2 u2 k hu hv hvl hul hp hp2 hn1 hn2 hpu hv1 hv2 hu2 hg hr h h12 h13 hc1 hn hg0
     ·exact U5 L run kk fr b1 wr u v q m n j p p2 n1 n2 g rest v1 v2 u2 k hu hv hvl hul hp hp2 hn1 hn2 hpu hv1 hv2 hu2 hg hr h h12 h13 (by omega) (hc.resolve_left hc1) hn hg0
    obtain⟨fr',g',r1,r2⟩:=xA L run kk b1 wr u v q m n j p p2 n1 n2 v1 v2 u2 top k hu hv hvl hul hp hp2 hn1 hn2 hpu hv1 hv2 hu2 ht h5 f fr1 (g - 1) (rest+v1) hn (by omega) (by omega) hG' q2 q3 q4
    exact⟨fr',g',by rw[ca q1];exact r1,r2⟩
   ·have hn':1000000000≤rest+v1:=by omega
    obtain⟨fr1,q1,q2,q3,q4⟩:∃ fr',af (CC L) run kk kR ⟨fr,hpL b1 u q,wr⟩=some (.exit 2,⟨fr',hpL b1 u q,wr⟩)∧LF fr' u.length m k (.imm n false (v.map dg)) n j∧nth fr' 12=iU (g - 1)∧nth fr' 13=iU (rest+v1):=by
     by_cases hc1:1000000000≤g
     ·exact OA L run kk fr b1 wr u v q m n j p p2 n1 n2 g rest v1 v2 u2 k hu hv hvl hul hp hp2 hn1 hn2 hpu hv1 hv2 hu2 hg hr h h12 h13 hc1 hn' hg0
     ·exact Oz L run kk fr b1 wr u v q m n j p p2 n1 n2 g rest v1 v2 u2 k hu hv hvl hul hp hp2 hn1 hn2 hpu hv1 hv2 hu2 hg hr h h12 h13 (by omega) (hc.resolve_left hc1) hn' hg0
    exact⟨fr1,g - 1,bE q1,q2,q3,hG'.brk hn' ht a3⟩
  ·have hc1:g<1000000000:=by
    rcases Nat.lt_or_ge g 1000000000 with h | h
    ·exact h
    ·exact absurd (.inl h) hc
   have hc2:g*v2≤rest*1000000000+u2:=by
    rcases Nat.lt_or_ge (rest*1000000000+u2) (g*v2) with h | h
    ·exact absurd (.inr h) hc
    ·exact h
   obtain⟨fr1,q1,q2,q3⟩:=Oq L run kk fr b1 wr u v q m n j p p2 n1 n2 g rest v1 v2 u2 k hu hv hvl hul hp hp2 hn1 hn2 hpu hv1 hv2 hu2 hg hr h h12 h13 hc1 hc2
   exact⟨fr1,g,bE q1,q2,q3,hG.stop hc1 hc2⟩
theorem Oh {x bo p1 X:Nat}{z z2:Int}(hz:z=(x:Int) - (bo:Int) - (p1:Int))(hz2:z2=z+1000000000)(hX:X=x+2000000000 - (bo+p1))(h:bo+p1≤x+2000000000):z2+1000000000=(X:Int):=by
 subst hz2;subst hz;subst hX
 rw[Int.natCast_sub h]
 simp only[Int.natCast_add]
 omega
theorem Oy (L:Lst)(run:aw)(kk:Nat)(fr:Ψ)(hp:Θ)(wr:Ω)(nu m n j:Nat)(k v g bo:PV)(h:LF fr nu m k v n j)(h12:nth fr 12=g)(h14:nth fr 14=bo)(h123:nth fr 123=iI n)(h124:nth fr 124=iI n) :
  ∃ fr',af (CC L) run kk nQ ⟨fr,hp,wr⟩=some (.exit 4,⟨fr',hp,wr⟩)∧LF fr' nu m k v n j∧nth fr' 12=g∧nth fr' 14=bo:=by
 obtain⟨h0,h4,h6,h7,h8,h9,h10⟩:=h
 simp[LF,nQ,dn,eg,f182,h0,h4,h6,h7,h8,h9,h10,h12,h14,h123,h124]
set_option maxHeartbeats 4000000 in
theorem aa6 (L:Lst)(run:aw)(kk:Nat)(fr:Ψ)(b1:Blk)(wr:Ω)(c v q:Ω)(m n j p i g bo p0 p1 p2 X b':Nat)(k:PV)(hc:Dok c)(hv:Dok v)(hvl:v.length=n)(hcl:c.length<1000001)
  (hp:p=i+j) (hi:i<n) (hpc:p<c.length) (hg:g<1000000000) (hbo:bo≤g) (hp0:p0=g*at0 v i) (hp1:p1=p0 % 1000000000) (hp2:p2=p0 / 1000000000)
  (h:LF fr c.length m k (.imm n false (v.map dg)) n j) (h12:nth fr 12=iU g) (h14:nth fr 14=iI bo) (h123:nth fr 123=iI n) (h124:nth fr 124=iI i) (hX:X<1000000000)
  (hA:bo+p1≤at0 c p) (hB:X=at0 c p - (bo+p1)) (hb:b'=p2) :
  ∃ fr' wr',af (CC L) run kk nQ ⟨fr,hpL b1 c q,wr⟩=some (.normal,⟨fr',hpL b1 (c.set p X) q,wr'⟩)∧LF fr' c.length m k (.imm n false (v.map dg)) n j∧nth fr' 12=iU g∧nth fr' 14=iI b'∧nth fr' 123=iI n∧nth fr' 124=iI (i+1):=by
 obtain⟨h0,h4,h6,h7,h8,h9,h10⟩:=h
 have hiv:i<v.length:=by omega
 have hd1:=cY c p hpc
 have hd2:=cY v i hiv
 have a1:=cu hc p
 have a2:=cu hv i
 have hov:=jn c p X hpc
 generalize at0 c p=x at *
 generalize at0 v i=y at *
 have hgy:g*y≤999999999*999999999:=Nat.mul_le_mul (by omega) (by omega)
 rw[← hp0] at hgy
 have hwp:=dA .i64 i j p hp (hiI (by omega))
 have hw0:=cq .i64 x (hiI (by omega))
 have hw1:=cq .i64 g (hiI (by omega))
 have hw2:=cq .i64 y (hiI (by omega))
 have hw3:=wrapM .i64 g y p0 hp0 (hiI (by omega))
 have hw4:=lG p0 p1 hp1
 have hw5:=jK .i64 p0 p2 hp2 (hiI (by omega))
 have hwx:bF .i64 ((x:Int) - (bo:Int))=(x:Int) - (bo:Int):=fA _ (by omega) (by omega)
 obtain⟨z,hz⟩:∃ z,z=(x:Int) - (bo:Int) - (p1:Int):=⟨_,rfl⟩
 have hwz:bF .i64 ((x:Int) - (bo:Int) - (p1:Int))=z:=by rw[hz];exact fA _ (by omega) (by omega)
 have hwi:=bA i (by omega)
 have hwX:bF .u32 (X:Int)=(X:Int):=cq .u32 X (iM (by omega))
 have hwb1:bF .i64 ((p2:Int)+1)=(p2:Int)+1:=bA p2 (by omega)
 have e1 : ¬ (z<0):=by omega
 have e2:z=(X:Int):=by omega
 subst hb
 clear hz
 subst e2
 simp[LF,nQ,dn,eg,f182,bd,du,gh,h0,h4,h6,h7,h8,h9,h10,h12,h14,h123,h124,QI,bZ,hpc,hi,hd1,hd2,hov,hwp,hw0,hw1,hw2,hw3,hw4,hw5,hwx,hwz,hwi,hwX,e1,gV X]
set_option maxHeartbeats 4000000 in
theorem aa5 (L:Lst)(run:aw)(kk:Nat)(fr:Ψ)(b1:Blk)(wr:Ω)(c v q:Ω)(m n j p i g bo p0 p1 p2 X b':Nat)(k:PV)(hc:Dok c)(hv:Dok v)(hvl:v.length=n)(hcl:c.length<1000001)
  (hp:p=i+j) (hi:i<n) (hpc:p<c.length) (hg:g<1000000000) (hbo:bo≤g) (hp0:p0=g*at0 v i) (hp1:p1=p0 % 1000000000) (hp2:p2=p0 / 1000000000)
  (h:LF fr c.length m k (.imm n false (v.map dg)) n j) (h12:nth fr 12=iU g) (h14:nth fr 14=iI bo) (h123:nth fr 123=iI n) (h124:nth fr 124=iI i) (hX:X<1000000000)
  (hA:at0 c p<bo+p1) (hA2:bo+p1≤at0 c p+1000000000) (hB:X=at0 c p+1000000000 - (bo+p1)) (hb:b'=p2+1) :
  ∃ fr' wr',af (CC L) run kk nQ ⟨fr,hpL b1 c q,wr⟩=some (.normal,⟨fr',hpL b1 (c.set p X) q,wr'⟩)∧LF fr' c.length m k (.imm n false (v.map dg)) n j∧nth fr' 12=iU g∧nth fr' 14=iI b'∧nth fr' 123=iI n∧nth fr' 124=iI (i+1):=by
 obtain⟨h0,h4,h6,h7,h8,h9,h10⟩:=h
 have hiv:i<v.length:=by omega
 have hd1:=cY c p hpc
 have hd2:=cY v i hiv
 have a1:=cu hc p
 have a2:=cu hv i
 have hov:=jn c p X hpc
 generalize at0 c p=x at *
 generalize at0 v i=y at *
 have hgy:g*y≤999999999*999999999:=Nat.mul_le_mul (by omega) (by omega)
 rw[← hp0] at hgy
 have hwp:=dA .i64 i j p hp (hiI (by omega))
 have hw0:=cq .i64 x (hiI (by omega))
 have hw1:=cq .i64 g (hiI (by omega))
 have hw2:=cq .i64 y (hiI (by omega))
 have hw3:=wrapM .i64 g y p0 hp0 (hiI (by omega))
 have hw4:=lG p0 p1 hp1
 have hw5:=jK .i64 p0 p2 hp2 (hiI (by omega))
 have hwx:bF .i64 ((x:Int) - (bo:Int))=(x:Int) - (bo:Int):=fA _ (by omega) (by omega)
 obtain⟨z,hz⟩:∃ z,z=(x:Int) - (bo:Int) - (p1:Int):=⟨_,rfl⟩
 have hwz:bF .i64 ((x:Int) - (bo:Int) - (p1:Int))=z:=by rw[hz];exact fA _ (by omega) (by omega)
 have hwi:=bA i (by omega)
 have hwX:bF .u32 (X:Int)=(X:Int):=cq .u32 X (iM (by omega))
 have hwb1:bF .i64 ((p2:Int)+1)=(p2:Int)+1:=bA p2 (by omega)
 have e1:z<0:=by omega
 have e3:bF .i64 (z+1000000000)=(X:Int):=by rw[show z+1000000000=(X:Int) by omega];exact cq .i64 X (hiI (by omega))
 have e4 : ¬ ((X:Int)<0):=by omega
 subst hb
 clear hz
 simp[LF,nQ,dn,eg,f182,bd,du,gh,h0,h4,h6,h7,h8,h9,h10,h12,h14,h123,h124,QI,bZ,hpc,hi,hd1,hd2,hov,hwp,hw0,hw1,hw2,hw3,hw4,hw5,hwx,hwz,hwi,hwX,e1,e3,e4,hwb1,gV X]
set_option maxHeartbeats 4000000 in
theorem aa4 (L:Lst)(run:aw)(kk:Nat)(fr:Ψ)(b1:Blk)(wr:Ω)(c v q:Ω)(m n j p i g bo p0 p1 p2 X b':Nat)(k:PV)(hc:Dok c)(hv:Dok v)(hvl:v.length=n)(hcl:c.length<1000001)
  (hp:p=i+j) (hi:i<n) (hpc:p<c.length) (hg:g<1000000000) (hbo:bo≤g) (hp0:p0=g*at0 v i) (hp1:p1=p0 % 1000000000) (hp2:p2=p0 / 1000000000)
  (h:LF fr c.length m k (.imm n false (v.map dg)) n j) (h12:nth fr 12=iU g) (h14:nth fr 14=iI bo) (h123:nth fr 123=iI n) (h124:nth fr 124=iI i) (hX:X<1000000000)
  (hA:at0 c p+1000000000<bo+p1) (hB:X=at0 c p+2000000000 - (bo+p1)) (hb:b'=p2+2) :
  ∃ fr' wr',af (CC L) run kk nQ ⟨fr,hpL b1 c q,wr⟩=some (.normal,⟨fr',hpL b1 (c.set p X) q,wr'⟩)∧LF fr' c.length m k (.imm n false (v.map dg)) n j∧nth fr' 12=iU g∧nth fr' 14=iI b'∧nth fr' 123=iI n∧nth fr' 124=iI (i+1):=by
 obtain⟨h0,h4,h6,h7,h8,h9,h10⟩:=h
 have hiv:i<v.length:=by omega
 have hd1:=cY c p hpc
 have hd2:=cY v i hiv
 have a1:=cu hc p
 have a2:=cu hv i
 have hov:=jn c p X hpc
 generalize at0 c p=x at *
 generalize at0 v i=y at *
 have hgy:g*y≤999999999*999999999:=Nat.mul_le_mul (by omega) (by omega)
 rw[← hp0] at hgy
 have hwp:=dA .i64 i j p hp (hiI (by omega))
 have hw0:=cq .i64 x (hiI (by omega))
 have hw1:=cq .i64 g (hiI (by omega))
 have hw2:=cq .i64 y (hiI (by omega))
 have hw3:=wrapM .i64 g y p0 hp0 (hiI (by omega))
 have hw4:=lG p0 p1 hp1
 have hw5:=jK .i64 p0 p2 hp2 (hiI (by omega))
 have hwx:bF .i64 ((x:Int) - (bo:Int))=(x:Int) - (bo:Int):=fA _ (by omega) (by omega)
 obtain⟨z,hz⟩:∃ z,z=(x:Int) - (bo:Int) - (p1:Int):=⟨_,rfl⟩
 have hwz:bF .i64 ((x:Int) - (bo:Int) - (p1:Int))=z:=by rw[hz];exact fA _ (by omega) (by omega)
 have hwi:=bA i (by omega)
 have hwX:bF .u32 (X:Int)=(X:Int):=cq .u32 X (iM (by omega))
 have hwb1:bF .i64 ((p2:Int)+1)=(p2:Int)+1:=bA p2 (by omega)
 have e1:z<0:=by omega
 obtain⟨z2,hz2⟩:∃ z2,z2=z+1000000000:=⟨_,rfl⟩
 have e3:bF .i64 (z+1000000000)=z2:=by rw[← hz2];exact fA _ (by omega) (by omega)
 have e4:z2<0:=by omega
 have e5:bF .i64 (z2+1000000000)=(X:Int):=by rw[Oh hz hz2 hB (by omega)];exact cq .i64 X (hiI (by omega))
 have e6:bF .i64 ((p2:Int)+1+1)=(p2:Int)+2:=by
  have hp3:p2≤999999999:=by rw[hp2];exact Nat.div_le_of_le_mul (Nat.le_trans hgy (by decide))
  have:=bA (p2+1) (Nat.lt_of_le_of_lt (Nat.succ_le_succ hp3) (by decide))
  rw[show ((p2:Int)+1+1)=((p2+1:Nat):Int)+1 by omega,this];omega
 subst hb
 clear hz hz2
 simp[LF,nQ,dn,eg,f182,bd,du,gh,h0,h4,h6,h7,h8,h9,h10,h12,h14,h123,h124,QI,bZ,hpc,hi,hd1,hd2,hov,hwp,hw0,hw1,hw2,hw3,hw4,hw5,hwx,hwz,hwi,hwX,e1,e3,e4,e5,e6,hwb1,gV X]
end Go.Proofs.YtjdmodeenbdfpaaGreat
end
