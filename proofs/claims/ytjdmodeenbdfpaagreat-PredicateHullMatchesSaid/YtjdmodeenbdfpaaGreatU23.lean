/- Contracts of num's integers, part 23; each lemma states its conditions. -/
import Derived.Test.YtjdmodeenbdfpaaGreatU22
set_option linter.unusedSimpArgs false
set_option linter.unusedVariables false
noncomputable section
namespace Go.Proofs.YtjdmodeenbdfpaaGreat
open Go Go.Ab List
attribute [local simp] FzZ LF aC aF aG aH aa ab ae af ag ah ai aj an and_assoc aq ar au aw az ba bf bg bh bm dU dn gR s32 seq1 uD
theorem xF (L:Lst)(run:av)(kk:Nat)(b1:Blk)(u v q:Ω)(m n j g:Nat)(k:PV)(hu:Dok u)(hv:Dok v)(hvl:v.length=n)(hul:u.length<1000001)(hjn:j+n<u.length)(hg:g<1000000000) :
  ∀ (d i:Nat) (fr:Ψ) (wr:Ω) (c:Ω) (bo:Nat),i+d=n→MS u v c j g i bo→LF fr u.length m k (.imm n false (v.map dg)) n j→nth fr 12=iU g→nth fr 14=iI bo→nth fr 123=iI n→nth fr 124=iI i →
  ∃ (fr':Ψ) (wr' c':Ω) (bo':Nat),cg (ae (CC L) run kk nO) (d+1) ⟨fr,hpL b1 c q,wr⟩=some (.exit 4,⟨fr',hpL b1 c' q,wr'⟩)∧LF fr' u.length m k (.imm n false (v.map dg)) n j∧nth fr' 12=iU g∧nth fr' 14=iI bo'∧MS u v c' j g n bo'
 | 0,i,fr,wr,c,bo,hi,hM,h,h12,h14,h123,h124=>by
  have:i=n:=by omega
  subst this
  obtain⟨fr',q1,q2,q3,q4⟩:=OE L run kk fr (hpL b1 c q) wr u.length m i j k _ _ _ h h12 h14 h123 h124
  exact⟨fr',wr,c,bo,br q1,q2,q3,q4,hM⟩
 | d+1,i,fr,wr,c,bo,hi,hM,h,h12,h14,h123,h124=>by
  have hst:=hM.step hu hv (by omega)
  have hw:=abF (u:=at0 u (j+i)) (v:=at0 v i) (g:=g) (bo:=bo) (p:=g*at0 v i) rfl (cn hu _) hg hM.le
  have hX:=IA (at0 u (j+i)) (at0 v i) g bo
  have hcl:c.length=u.length:=hM.len
  have hat:=hM.at
  obtain⟨fr1,wr1,q1,q2,q3,q4,q5,q6⟩:∃ fr' wr',ae (CC L) run kk nO ⟨fr,hpL b1 c q,wr⟩=some (.normal,⟨fr',hpL b1 (c.set (j+i) (msX (at0 u (j+i)) (at0 v i) g bo)) q,wr'⟩)∧LF fr' c.length m k (.imm n false (v.map dg)) n j∧nth fr' 12=iU g∧nth fr' 14=iI (msB (at0 u (j+i)) (at0 v i) g bo)∧nth fr' 123=iI n∧nth fr' 124=iI (i+1):=by
   rw[← hcl] at h
   rcases hw with ⟨w1,w2,w3⟩| ⟨w1,w2,w3,w4⟩| ⟨w1,w2,w3⟩
   ·exact abS L run kk fr b1 wr c v q m n j (j+i) i g bo _ _ _ _ _ k hM.ok hv hvl (by omega) (Nat.add_comm _ _) (by omega) (by omega) hg hM.le rfl rfl rfl h h12 h14 h123 h124 hX (by rw[hat];exact w1) (by rw[hat];exact w2) w3
   ·exact abR L run kk fr b1 wr c v q m n j (j+i) i g bo _ _ _ _ _ k hM.ok hv hvl (by omega) (Nat.add_comm _ _) (by omega) (by omega) hg hM.le rfl rfl rfl h h12 h14 h123 h124 hX (by rw[hat];exact w1) (by rw[hat];exact w2) (by rw[hat];exact w3) w4
   ·exact abQ L run kk fr b1 wr c v q m n j (j+i) i g bo _ _ _ _ _ k hM.ok hv hvl (by omega) (Nat.add_comm _ _) (by omega) (by omega) hg hM.le rfl rfl rfl h h12 h14 h123 h124 hX (by rw[hat];exact w1) (by rw[hat];exact w2) w3
  rw[hcl] at q2
  obtain⟨fr',wr',c',bo',r1,r2⟩:=xF L run kk b1 u v q m n j g k hu hv hvl hul hjn hg d (i+1) fr1 wr1 _ _ (by omega) hst q2 q3 q4 q5 q6
  exact⟨fr',wr',c',bo',by rw[bU q1];exact r1,r2⟩
theorem OJ (L:Lst)(run:av)(kk:Nat)(fr:Ψ)(hp:Θ)(wr:Ω)(nu m n j:Nat)(k v g x c:PV)(h:LF fr nu m k v n j)(h12:nth fr 12=g)(h17:nth fr 17=x)(h18:nth fr 18=c)(h188:nth fr 188=iI n)(h189:nth fr 189=iI n) :
  ∃ fr',ae (CC L) run kk Ax ⟨fr,hp,wr⟩=some (.exit 6,⟨fr',hp,wr⟩)∧LF fr' nu m k v n j∧nth fr' 12=g∧nth fr' 17=x∧nth fr' 18=c:=by
 obtain⟨h0,h4,h6,h7,h8,h9,h10⟩:=h
 simp[Ax,Tryz.f182,h0,h4,h6,h7,h8,h9,h10,h12,h17,h18,h188,h189]
set_option maxHeartbeats 4000000 in
theorem EN (L:Lst)(run:av)(kk:Nat)(fr:Ψ)(b1:Blk)(wr:Ω)(c v q:Ω)(m n j p i cy s:Nat)(k g x:PV)(hc:Dok c)(hv:Dok v)(hvl:v.length=n)(hcl:c.length<1000001)
  (hp:p=i+j) (hi:i<n) (hpc:p<c.length) (hcy:cy≤1) (hs:s=at0 c p+at0 v i+cy)
  (h:LF fr c.length m k (.imm n false (v.map dg)) n j) (h12:nth fr 12=g) (h17:nth fr 17=x) (h18:nth fr 18 = .sc (.int .u32 (cy:Int))) (h188:nth fr 188=iI n) (h189:nth fr 189=iI i) :
  ∃ fr' wr',ae (CC L) run kk Ax ⟨fr,hpL b1 c q,wr⟩=some (.normal,⟨fr',hpL b1 (c.set p (s % 1000000000)) q,wr'⟩)∧LF fr' c.length m k (.imm n false (v.map dg)) n j∧nth fr' 12=g∧nth fr' 17=x∧nth fr' 18 = .sc (.int .u32 ((s / 1000000000:Nat):Int))∧nth fr' 188=iI n∧nth fr' 189=iI (i+1):=by
 obtain⟨h0,h4,h6,h7,h8,h9,h10⟩:=h
 have hiv:i<v.length:=by omega
 have hd1:=da c p hpc
 have hd2:=da v i hiv
 have a1:=cn hc p
 have a2:=cn hv i
 obtain⟨X,hX⟩:∃ X,X=s % 1000000000:=⟨_,rfl⟩
 obtain⟨Q,hQ⟩:∃ Q,Q=s / 1000000000:=⟨_,rfl⟩
 have hov:=jk c p X hpc
 generalize at0 c p=a at *
 generalize at0 v i=b at *
 obtain⟨s1,hs1⟩:∃ s1,s1=a+b:=⟨_,rfl⟩
 rw[← hs1] at hs
 rw[← hX,← hQ]
 have hwp:=dx .i64 i j p hp (hiI (by omega))
 have hw0:=dx .u32 a b s1 hs1 (iC (by omega))
 have hw1:=dx .u32 s1 cy s hs (iC (by omega))
 have hw2:=jC .u32 s Q hQ (iC (by omega))
 have hw3:=ll s X hX
 have hwi:=bE i (by omega)
 simp[Ax,Tryz.f182,bc,partOf,bj,du,fY,h0,h4,h6,h7,h8,h9,h10,h12,h17,h18,h188,h189,a32,aV,aX,cF,hpc,hi,hd1,hd2,hov,hwp,hw0,hw1,hw2,hw3,hwi,gM X,number,FP.free]
theorem xH (L:Lst)(run:av)(kk:Nat)(b1:Blk)(u v q:Ω)(m n j:Nat)(k g x:PV)(hu:Dok u)(hv:Dok v)(hvl:v.length=n)(hul:u.length<1000001)(hjn:j+n<u.length) :
  ∀ (d i:Nat) (fr:Ψ) (wr:Ω) (c:Ω) (cy:Nat),i+d=n→AB u v c j i cy→LF fr u.length m k (.imm n false (v.map dg)) n j→nth fr 12=g→nth fr 17=x→nth fr 18 = .sc (.int .u32 (cy:Int))→nth fr 188=iI n→nth fr 189=iI i →
  ∃ (fr':Ψ) (wr' c':Ω) (cy':Nat),cg (ae (CC L) run kk Ax) (d+1) ⟨fr,hpL b1 c q,wr⟩=some (.exit 6,⟨fr',hpL b1 c' q,wr'⟩)∧LF fr' u.length m k (.imm n false (v.map dg)) n j∧nth fr' 12=g∧nth fr' 17=x∧nth fr' 18 = .sc (.int .u32 (cy':Int))∧AB u v c' j n cy'
 | 0,i,fr,wr,c,cy,hi,hM,h,h12,h17,h18,h188,h189=>by
  have:i=n:=by omega
  subst this
  obtain⟨fr',q1,q2,q3,q4,q5⟩:=OJ L run kk fr (hpL b1 c q) wr u.length m i j k _ _ _ _ h h12 h17 h18 h188 h189
  exact⟨fr',wr,c,cy,br q1,q2,q3,q4,q5,hM⟩
 | d+1,i,fr,wr,c,cy,hi,hM,h,h12,h17,h18,h188,h189=>by
  have hst:=hM.step hu hv (by omega)
  have hcl:c.length=u.length:=hM.len
  have hat:=hM.at
  rw[← hcl] at h
  obtain⟨fr1,wr1,q1,q2,q3,q4,q5,q6,q7⟩:=EN L run kk fr b1 wr c v q m n j (j+i) i cy _ k g x hM.ok hv hvl (by omega) (Nat.add_comm _ _) (by omega) (by omega) hM.le (congrArg (· + at0 v i+cy) hat.symm) h h12 h17 h18 h188 h189
  rw[hcl] at q2
  obtain⟨fr',wr',c',cy',r1,r2⟩:=xH L run kk b1 u v q m n j k g x hu hv hvl hul hjn d (i+1) fr1 wr1 _ _ (by omega) hst q2 q3 q4 q5 q6 q7
  exact⟨fr',wr',c',cy',by rw[bU q1];exact r1,r2⟩
def BX:Code:=seq1 (seq1 (ai 4 dn))
def oQ:Code:=seq1 (seq1 (ai 6 dn))
def mR:Code:=match aO (seq1 (ai 6 dn)) with | .cond _ a _=>a | c=>c
def BW:Code:=seq1 (seq1 (ai 2 mR))
theorem ON:ai 2 dn = .seq (.block 2 (.loop kF)) (ai 3 dn):=rfl
theorem OM:ai 4 dn = .seq (.seq BX (.block 4 (.loop nO))) (ai 5 dn):=rfl
theorem OL:ai 6 dn = .seq (.seq oQ (.cond (.tmp 185) mR .skip)) (ai 7 dn):=rfl
theorem Vn:ai 2 mR = .seq (.seq BW (.block 6 (.loop Ax))) (ai 3 mR):=rfl
theorem Vp:dU = .seq (seq1 dU) (.seq (.block 1 dn) (ai 2 dU)):=rfl
theorem U8 (L:Lst)(run:av)(kk:Nat)(fr:Ψ)(hp:Θ)(wr:Ω)(nu m n j:Nat)(k v g:PV)(h:LF fr nu m k v n j)(h12:nth fr 12=g) :
  ∃ fr',bh (CC L) run kk 1 (ai 3 dn) ⟨fr,hp,wr⟩=some ⟨fr',hp,wr⟩∧LF fr' nu m k v n j∧nth fr' 12=g∧nth fr' 14=iI 0:=by
 obtain⟨h0,h4,h6,h7,h8,h9,h10⟩:=h
 simp[Tryz.f182,h0,h4,h6,h7,h8,h9,h10,h12]
theorem U7 (L:Lst)(run:av)(kk:Nat)(fr:Ψ)(hp:Θ)(wr:Ω)(nu m n j:Nat)(k v g b:PV)(h:LF fr nu m k v n j)(h12:nth fr 12=g)(h14:nth fr 14=b) :
  ∃ fr',ae (CC L) run kk BX ⟨fr,hp,wr⟩=some (.normal,⟨fr',hp,wr⟩)∧LF fr' nu m k v n j∧nth fr' 12=g∧nth fr' 14=b∧nth fr' 123=iI n∧nth fr' 124=iI 0:=by
 obtain⟨h0,h4,h6,h7,h8,h9,h10⟩:=h
 simp[BX,Tryz.f182,h0,h4,h6,h7,h8,h9,h10,h12,h14]
theorem U6 (L:Lst)(run:av)(kk:Nat)(fr:Ψ)(b1:Blk)(wr:Ω)(c q:Ω)(m n j p bo:Nat)(k v g:PV)(hc:Dok c)(hcl:c.length<1000001)(hp:p=j+n)(hpc:p<c.length)(hbo:bo<1000000000)(h:LF fr c.length m k v n j)(h12:nth fr 12=g)(h14:nth fr 14=iI bo) :
  ∃ fr',bh (CC L) run kk 1 (ai 5 dn) ⟨fr,hpL b1 c q,wr⟩=some ⟨fr',hpL b1 c q,wr⟩∧LF fr' c.length m k v n j∧nth fr' 12=g∧nth fr' 17 = .sc (.int .i64 ((at0 c p:Int) - (bo:Int))):=by
 obtain⟨h0,h4,h6,h7,h8,h9,h10⟩:=h
 have hd1:=da c p hpc
 have a1:=cn hc p
 generalize at0 c p=x at *
 have hwp:=dx .i64 j n p hp (hiI (by omega))
 have hw0:=cp .i64 x (hiI (by omega))
 have hwx:bB .i64 ((x:Int) - (bo:Int))=(x:Int) - (bo:Int):=fi _ (by omega) (by omega)
 simp[Tryz.f182,bc,partOf,h0,h4,h6,h7,h8,h9,h10,h12,h14,QP,u32,a32,dF,aV,aX,hpc,hd1,hwp,hw0,hwx]
theorem U5 (L:Lst)(run:av)(kk:Nat)(fr:Ψ)(hp:Θ)(wr:Ω)(nu m n j:Nat)(k v g:PV)(z:Int)(h:LF fr nu m k v n j)(h12:nth fr 12=g)(h17:nth fr 17 = .sc (.int .i64 z)) :
  ∃ fr',ae (CC L) run kk oQ ⟨fr,hp,wr⟩=some (.normal,⟨fr',hp,wr⟩)∧LF fr' nu m k v n j∧nth fr' 12=g∧nth fr' 17 = .sc (.int .i64 z)∧nth fr' 185 = .sc (.bool (decide (z<0))):=by
 obtain⟨h0,h4,h6,h7,h8,h9,h10⟩:=h
 simp[oQ,Tryz.f182,h0,h4,h6,h7,h8,h9,h10,h12,h17]
theorem U4 (L:Lst)(run:av)(kk:Nat)(fr:Ψ)(hp:Θ)(wr:Ω)(nu m n j g:Nat)(k v z:PV)(hg:g<999999999)(h:LF fr nu m k v n j)(h12:nth fr 12=iU (g+1))(h17:nth fr 17=z) :
  ∃ fr',bh (CC L) run kk 2 mR ⟨fr,hp,wr⟩=some ⟨fr',hp,wr⟩∧LF fr' nu m k v n j∧nth fr' 12=iU g∧nth fr' 17=z∧nth fr' 18 = .sc (.int .u32 (0:Nat)):=by
 obtain⟨h0,h4,h6,h7,h8,h9,h10⟩:=h
 obtain⟨g',hg'⟩:∃ g',g'=g+1:=⟨_,rfl⟩
 rw[← hg'] at h12
 have hw7:bB .u64 ((g':Int) - 1)=(g:Int):=by
  rw[show ((g':Int) - 1)=(g:Int) by omega];exact cp .u64 g (dA (by omega))
 simp[mR,Tryz.f182,aO,h0,h4,h6,h7,h8,h9,h10,h12,h17,hw7]
theorem U3 (L:Lst)(run:av)(kk:Nat)(fr:Ψ)(hp:Θ)(wr:Ω)(nu m n j:Nat)(k v g z c:PV)(h:LF fr nu m k v n j)(h12:nth fr 12=g)(h17:nth fr 17=z)(h18:nth fr 18=c) :
  ∃ fr',ae (CC L) run kk BW ⟨fr,hp,wr⟩=some (.normal,⟨fr',hp,wr⟩)∧LF fr' nu m k v n j∧nth fr' 12=g∧nth fr' 17=z∧nth fr' 18=c∧nth fr' 188=iI n∧nth fr' 189=iI 0:=by
 obtain⟨h0,h4,h6,h7,h8,h9,h10⟩:=h
 simp[BW,mR,Tryz.f182,aO,h0,h4,h6,h7,h8,h9,h10,h12,h17,h18]
theorem U2 (L:Lst)(run:av)(kk:Nat)(fr:Ψ)(hp:Θ)(wr:Ω)(nu m n j c:Nat)(k v g:PV)(z:Int)(h:LF fr nu m k v n j)(h12:nth fr 12=g)(h17:nth fr 17 = .sc (.int .i64 z))(h18:nth fr 18 = .sc (.int .u32 (c:Int))) :
  ∃ fr',ae (CC L) run kk (ai 3 mR) ⟨fr,hp,wr⟩=some (.normal,⟨fr',hp,wr⟩)∧LF fr' nu m k v n j∧nth fr' 12=g:=by
 obtain⟨h0,h4,h6,h7,h8,h9,h10⟩:=h
 simp[mR,Tryz.f182,aO,h0,h4,h6,h7,h8,h9,h10,h12,h17,h18,QP,u32,dF]
theorem U1 (L:Lst)(run:av)(kk:Nat)(fr:Ψ)(b1:Blk)(wr:Ω)(c q:Ω)(n j p g:Nat)(k v:PV)(hcl:c.length<1000001)(hp:p=j+n)(hpc:p<c.length)(hjq:j<q.length)(hg:g<1000000000)(h:LF fr c.length q.length k v n j)(h12:nth fr 12=iU g) :
  ∃ fr' wr',ae (CC L) run kk (ai 7 dn) ⟨fr,hpL b1 c q,wr⟩=some (.normal,⟨fr',hpL b1 (c.set p 0) (q.set j g),wr'⟩)∧LF fr' c.length q.length k v n j:=by
 obtain⟨h0,h4,h6,h7,h8,h9,h10⟩:=h
 have hwp:=dx .i64 j n p hp (hiI (by omega))
 have hw0:bB .u32 (g:Int)=(g:Int):=cp .u32 g (iC (by omega))
 have hov:=jk c p 0 hpc
 have hov2:=jk q j g hjq
 have hz:PV.sc (.int .u32 0)=dg 0:=rfl
 simp[Tryz.f182,bc,bj,du,fY,h0,h4,h6,h7,h8,h9,h10,h12,u32,u64,dF,aX,cF,hpc,hjq,hwp,hw0,hov,hov2,gM g,hz]
def LH (fr:Ψ)(nu m:Nat)(k v:PV)(n J:Nat):Prop :=
 fr.length=239∧nth fr 4 = .own 2 1 0 m true∧nth fr 6=k∧nth fr 7 = .own 0 1 0 nu false∧nth fr 8=v∧nth fr 9=iI n∧nth fr 10 = .sc (.int .i64 ((J:Int) - 1))
theorem abO (L:Lst)(run:av)(kk:Nat)(fr:Ψ)(hp:Θ)(wr:Ω)(nu m n j:Nat)(k v:PV)(hj:j<1000001)(h:LF fr nu m k v n j) :
  ∃ fr',ae (CC L) run kk (ai 2 dU) ⟨fr,hp,wr⟩=some (.normal,⟨fr',hp,wr⟩)∧LH fr' nu m k v n j:=by
 obtain⟨h0,h4,h6,h7,h8,h9,h10⟩:=h
 have hw:=cM j (by omega)
 simp[LH,Tryz.f182,h0,h4,h6,h7,h8,h9,h10,hw]
theorem IK (L:Lst)(run:av)(kk:Nat)(fr:Ψ)(hp:Θ)(wr:Ω)(nu m n:Nat)(k v:PV)(h:LH fr nu m k v n 0) :
  ∃ fr',ae (CC L) run kk dU ⟨fr,hp,wr⟩=some (.exit 0,⟨fr',hp,wr⟩)∧LH fr' nu m k v n 0:=by
 obtain⟨h0,h4,h6,h7,h8,h9,h10⟩:=h
 simp only[Int.natCast_zero,Int.zero_sub] at h10
 simp[LH,Tryz.f182,h0,h4,h6,h7,h8,h9,h10]
theorem IJ (L:Lst)(run:av)(kk:Nat)(fr:Ψ)(hp:Θ)(wr:Ω)(nu m n j:Nat)(k v:PV)(h:LH fr nu m k v n (j+1)) :
  ∃ fr',ae (CC L) run kk (seq1 dU) ⟨fr,hp,wr⟩=some (.normal,⟨fr',hp,wr⟩)∧LF fr' nu m k v n j:=by
 obtain⟨h0,h4,h6,h7,h8,h9,h10⟩:=h
 rw[show (((j+1:Nat):Int) - 1)=(j:Int) by omega] at h10
 simp[Tryz.f182,h0,h4,h6,h7,h8,h9,h10]
theorem uz {C:Cfg}{run:av}{k:Nat}{c:Operand}{a b:Code}{st:St}(h:aj st.fr c = .sc (.bool true)):ae C run k (.cond c a b) st=ae C run k a st:=by
 simp only[ae,h]
theorem uA {C:Cfg}{run:av}{k:Nat}{c:Operand}{a b:Code}{st:St}(h:aj st.fr c = .sc (.bool false)):ae C run k (.cond c a b) st=ae C run k b st:=by
 simp only[ae,h]
theorem AU {C:Cfg}{run:av}{k:Nat}{st:St} : ae C run k .skip st=some (.normal,st):=by simp only[ae]
theorem II (L:Lst)(run:av)(kk:Nat)(fr:Ψ)(b1:Blk)(wr:Ω)(A nu m n mm j:Nat)(k:PV)(u v q:Ω)(hv:Dok v)(hvl:v.length=n)(hmm:n=mm+2)(hul:u.length<1000001)(hnu:u.length=nu)(hkk:n+1≤kk)(hkk3:3≤kk)
  (h5:500000000≤at0 v (mm+1)) (hL:LI A (val v) n nu u q (j+1)) (hj:j+n<nu) (hq:q.length=m) (h:LH fr nu m k (.imm n false (v.map dg)) n (j+1)) :
  ∃ (fr':Ψ) (wr' u' q':Ω),ae (CC L) run kk dU ⟨fr,hpL b1 u q,wr⟩=some (.normal,⟨fr',hpL b1 u' q',wr'⟩)∧LI A (val v) n nu u' q' j∧q'.length=m∧LH fr' nu m k (.imm n false (v.map dg)) n j:=by
 have hu:=hL.uok
 subst hnu
 have hVlt:val v<1000000000 ^ n:=by have:=eM hv;rwa [hvl] at this
 obtain⟨s1,s2,s3⟩:=hL.seg hVlt
 have hn3:n+1=mm+3:=by omega
 rw[hn3] at s3
 have hV0:0<val v:=by
  rw[qk v mm (by omega)]
  have:0<1000000000 ^ mm:=Nat.pow_pos (by omega)
  have:0<(at0 v (mm+1)*1000000000+at0 v mm)*1000000000 ^ mm:=Nat.mul_pos (by omega) this
  omega
 have htop:=OU hv (by omega) s3
 obtain⟨f1,p1,p2⟩:=IJ L run kk fr (hpL b1 u q) wr u.length m n j k _ h
 obtain⟨f2,q1,q2,q3,q4⟩:=abN L run kk f1 b1 wr u v q m n j (j+mm+2) (j+mm+1) (mm+1) _ _ k hu hv hvl hul (by omega) (by omega) (by omega) (by omega) rfl rfl (by omega) p2
 have hg9:=GI.le (v2:=0) (u2:=0) h5 htop
 have hu2:=cn hu (j+mm)
 obtain⟨f3,g,r1,r2,r3,r4⟩:=xG L run kk b1 wr u v q m n j (j+mm+2) (j+mm) (mm+1) mm _ _ _ _ k hu hv hvl hul (by omega) (by omega) (by omega) (by omega) (by omega) rfl rfl rfl htop h5 3 f2 _ _
  (Nat.lt_trans (Nat.mod_lt _ (by omega)) (cn hv (mm+1))) (by omega) hg9 (GI.init (by omega) hu2) q2 q3 q4
 have hgq:=OW hu hv (by omega) (by omega) s3 r4
 have hgB:=r4.1
 obtain⟨f4,t1,t2,t3,t4⟩:=U8 L run kk f3 (hpL b1 u q) wr u.length m n j k _ _ r2 r3
 obtain⟨f5,w1,w2,w3,w4,w5,w6⟩:=U7 L run kk f4 (hpL b1 u q) wr u.length m n j k _ _ _ t2 t3 t4
 obtain⟨f6,wr6,c6,bo,x1,x2,x3,x4,x5⟩:=xF L run kk b1 u v q m n j g k hu hv hvl hul hj hgB n 0 f5 wr u 0 (by omega) (MS.init hu j g) w2 w3 w4 w5 w6
 have hc6:c6.length=u.length:=x5.len
 rw[← hc6] at x2
 have hbo:=x5.le
 obtain⟨f7,y1,y2,y3,y4⟩:=U6 L run kk f6 b1 wr6 c6 q m n j (j+n) bo k _ _ x5.ok (by omega) rfl (by omega) (by omega) x2 x3 x4
 obtain⟨f8,z1,z2,z3,z4,z5⟩:=U5 L run kk f7 (hpL b1 c6 q) wr6 c6.length m n j k _ _ _ y2 y3 y4
 have hat:at0 c6 (j+n)=at0 u (j+n):=x5.at
 have hsegu:val ((u.drop j).take (n+1))=at0 u (j+n)*1000000000 ^ n+val ((u.drop j).take n):=by rw[gj];omega
 have hdm:=Nat.div_add_mod (val ((u.drop j).take (n+1))) (val v)
 have hmod:=Nat.mod_lt (val ((u.drop j).take (n+1))) hV0
 have hms:=x5.eq
 rw[cB v n (by omega)] at hms
 have hR:=Bt x5.ok j n
 have hdB:val ((u.drop j).take (n+1)) / val v<1000000000:=by
  rw[hn3];exact Nat.div_lt_of_lt_mul s3
 rw[← hn3] at hgq
 have fin:∀ (f:Ψ) (wrx c:Ω),LF f c.length m k (.imm n false (v.map dg)) n j→nth f 12=iU (val ((u.drop j).take (n+1)) / val v)→c.length=u.length→Dok c→c.take j=u.take j→c.drop (j+n+1)=u.drop (j+n+1) →
   val ((c.drop j).take n)=val ((u.drop j).take (n+1)) % val v →
   ∃ (fr':Ψ) (wr' u' q':Ω),(match ae (CC L) run kk (ai 7 dn) ⟨f,hpL b1 c q,wrx⟩ with | some (.normal,st')=>ae (CC L) run kk (ai 2 dU) st' | r=>r)=some (.normal,⟨fr',hpL b1 u' q',wr'⟩)∧LI A (val v) n u.length u' q' j∧q'.length=m∧LH fr' u.length m k (.imm n false (v.map dg)) n j:=by
  intro f wrx c hf h12 hcl hok hlow hhigh hseg
  have hqj:j<q.length:=by have:=hL.ql;omega
  rw[← hq] at hf
  obtain⟨f9,wr9,a1,a2⟩:=U1 L run kk f b1 wrx c q n j (j+n) _ k _ (by omega) rfl (by omega) hqj hdB hf h12
  obtain⟨f10,b1',b2⟩:=abO L run kk f9 (hpL b1 (c.set (j+n) 0) (q.set j (val ((u.drop j).take (n+1)) / val v))) wr9 c.length q.length n j k _ (by omega) a2
  refine⟨f10,wr9,c.set (j+n) 0,q.set j (val ((u.drop j).take (n+1)) / val v),?_,?_,by rw[length_set,hq],?_⟩
  ·rw[a1];exact b1'
  ·refine hL.next hVlt hV0 hj (by rw[length_set];exact hcl) (hok.set _ (by omega)) ?_ ?_ ?_ ?_ hdB
   ·rw[take_set_of_le (by omega),hlow]
   ·rw[drop_set_of_lt (by omega),hhigh]
   ·unfold at0;rw[getElem?_set_self (by omega)];rfl
   ·rw[← hseg]
    congr 1
    rw[drop_set,if_neg (by omega),take_set_of_le (by omega)]
  ·rw[← hcl,← hq];exact b2
 have hhigh6:c6.drop (j+n+1)=u.drop (j+n+1):=by
  rw[← drop_drop,x5.high,drop_drop]
 have hpre:∀ (f:Ψ) (wrx c:Ω),ae (CC L) run kk (.seq oQ (.cond (.tmp 185) mR .skip)) ⟨f7,hpL b1 c6 q,wr6⟩=some (.normal,⟨f,hpL b1 c q,wrx⟩) →
   ae (CC L) run kk dU ⟨fr,hpL b1 u q,wr⟩=match ae (CC L) run kk (ai 7 dn) ⟨f,hpL b1 c q,wrx⟩ with | some (.normal,st')=>ae (CC L) run kk (ai 2 dU) st' | some (.exit i,st')=>(if i=1 then ae (CC L) run kk (ai 2 dU) st' else some (.exit i,st')) | r=>r:=by
  intro f wrx c hx
  have hB:ae (CC L) run kk dn ⟨f1,hpL b1 u q,wr⟩=ae (CC L) run kk (ai 7 dn) ⟨f,hpL b1 c q,wrx⟩:=by
   rw[aU 2 q1,ON,ao (bD (bG r1 hkk3)),aU 1 t1,show ai 1 (ai 3 dn)=ai 4 dn from rfl,OM,
    ao ((ao w1).trans (bD (bG x1 hkk))),aU 1 y1,show ai 1 (ai 5 dn)=ai 6 dn from rfl,OL,ao hx]
  rw[Vp,ao p1]
  simp only[ae,hB]
  cases ae (CC L) run kk (ai 7 dn) ⟨f,hpL b1 c q,wrx⟩ with
  | none=>rfl
  | some r =>
   obtain⟨e,st⟩:=r
   cases e with
   | exit i =>
    by_cases hi:i=1
    ·subst hi;rfl
    ·simp[hi]
   | _=>rfl
 by_cases hneg:at0 u (j+n)<bo
 ·
  rw[hat] at z5 z4
  have hz5:decide (((at0 u (j+n):Nat):Int) - (bo:Int)<0)=true:=decide_eq_true (by omega)
  rw[hz5] at z5
  have hgd:g=val ((u.drop j).take (n+1)) / val v+1:=by
   rcases hgq with h' | h'
   ·exfalso
    have:=EF (un:=at0 u (j+n)) hR (Nat.lt_trans hmod hVlt) hms (by rw[h',Nat.mul_comm _ (val v),hdm];exact hsegu.symm)
    omega
   ·exact h'
  obtain⟨e1,e2⟩:=Le (un:=at0 u (j+n)) (q:=val ((u.drop j).take (n+1)) / val v) hR hmod hVlt (by rw[← hgd];exact hms) (by rw[Nat.mul_comm _ (val v),hdm];exact hsegu.symm)
  rw[hgd] at z3
  rw[hgd] at hgB
  obtain⟨f9,a1,a2,a3,a4,a5⟩:=U4 L run kk f8 (hpL b1 c6 q) wr6 c6.length m n j _ k _ _ (by omega) z2 z3 z4
  obtain⟨f10,b1',b2,b3,b4,b5,b6,b7⟩:=U3 L run kk f9 (hpL b1 c6 q) wr6 c6.length m n j k _ _ _ _ a2 a3 a4 a5
  obtain⟨f11,wr11,c11,cy,d1,d2,d3,d4,d5,d6⟩:=xH L run kk b1 c6 v q m n j k _ _ x5.ok hv hvl (by omega) (by omega) n 0 f10 wr6 c6 0 (by omega) (AB.init x5.ok j) b2 b3 b4 b5 b6 b7
  obtain⟨f12,g1,g2,g3⟩:=U2 L run kk f11 (hpL b1 c11 q) wr11 c6.length m n j cy k _ _ _ d2 d3 d4 d5
  have hc11:c11.length=c6.length:=d6.len
  have hx:ae (CC L) run kk (.seq oQ (.cond (.tmp 185) mR .skip)) ⟨f7,hpL b1 c6 q,wr6⟩=some (.normal,⟨f12,hpL b1 c11 q,wr11⟩):=by
   rw[ao z1,uz (by simpa [aj] using z5),aU 2 a1,Vn,ao ((ao b1').trans (bD (bG d1 hkk)))]
   exact g1
  have hab:=d6.eq
  rw[cB v n (by omega)] at hab
  obtain⟨fr',wr',u',q',k1,k2⟩:=fin f12 wr11 c11 (by rw[hc11];exact g2) g3 (by omega) d6.ok (by rw[d6.low,x5.low]) (by rw[← hhigh6,← drop_drop,d6.high,drop_drop]) (agP (Bt d6.ok j n) hmod hVlt e2 hab d6.le)
  refine⟨fr',wr',u',q',?_,k2⟩
  rw[hpre f12 wr11 c11 hx]
  revert k1
  cases ae (CC L) run kk (ai 7 dn) ⟨f12,hpL b1 c11 q,wr11⟩ with
  | none=>intro k1;exact k1
  | some r =>
   obtain⟨e,st⟩:=r
   cases e <;> simp
 ·rw[hat] at z5 z4
  have hz5:decide (((at0 u (j+n):Nat):Int) - (bo:Int)<0)=false:=decide_eq_false (by omega)
  rw[hz5] at z5
  have hgd:g=val ((u.drop j).take (n+1)) / val v∧val ((c6.drop j).take n)=val ((u.drop j).take (n+1)) % val v:=by
   rcases hgq with h' | h'
   ·have:=EF (un:=at0 u (j+n)) hR (Nat.lt_trans hmod hVlt) hms (by rw[h',Nat.mul_comm _ (val v),hdm];exact hsegu.symm)
    exact⟨h',this.2⟩
   ·exfalso
    obtain⟨e1,e2⟩:=Le (un:=at0 u (j+n)) (q:=val ((u.drop j).take (n+1)) / val v) hR hmod hVlt (by rw[← h'];exact hms) (by rw[Nat.mul_comm _ (val v),hdm];exact hsegu.symm)
    omega
  rw[hgd.1] at z3
  have hx:ae (CC L) run kk (.seq oQ (.cond (.tmp 185) mR .skip)) ⟨f7,hpL b1 c6 q,wr6⟩=some (.normal,⟨f8,hpL b1 c6 q,wr6⟩):=by
   rw[ao z1,uA (by simpa [aj] using z5),AU]
  obtain⟨fr',wr',u',q',k1,k2⟩:=fin f8 wr6 c6 z2 z3 hc6 x5.ok x5.low hhigh6 hgd.2
  refine⟨fr',wr',u',q',?_,k2⟩
  rw[hpre f8 wr6 c6 hx]
  revert k1
  cases ae (CC L) run kk (ai 7 dn) ⟨f8,hpL b1 c6 q,wr6⟩ with
  | none=>intro k1;exact k1
  | some r =>
   obtain⟨e,st⟩:=r
   cases e <;> simp
theorem Av (L:Lst)(run:av)(kk:Nat)(b1:Blk)(A nu m n mm:Nat)(k:PV)(v:Ω)(hv:Dok v)(hvl:v.length=n)(hmm:n=mm+2)(hul:nu<1000001)(hkk:n+1≤kk)(hkk3:3≤kk)(h5:500000000≤at0 v (mm+1)) :
  ∀ (J:Nat) (fr:Ψ) (wr u q:Ω),LI A (val v) n nu u q J→J+n≤nu→q.length=m→LH fr nu m k (.imm n false (v.map dg)) n J →
  ∃ (fr':Ψ) (wr' u' q':Ω),cg (ae (CC L) run kk dU) (J+1) ⟨fr,hpL b1 u q,wr⟩=some (.exit 0,⟨fr',hpL b1 u' q',wr'⟩)∧LI A (val v) n nu u' q' 0∧q'.length=m∧LH fr' nu m k (.imm n false (v.map dg)) n 0
 | 0,fr,wr,u,q,hL,hJ,hq,h=>by
  obtain⟨fr',g1,g2⟩:=IK L run kk fr (hpL b1 u q) wr nu m n k _ h
  exact⟨fr',wr,u,q,br g1,hL,hq,g2⟩
 | j+1,fr,wr,u,q,hL,hJ,hq,h=>by
  obtain⟨fr1,wr1,u1,q1,g1,g2,g3,g4⟩:=II L run kk fr b1 wr A nu m n mm j k u v q hv hvl hmm (by rw[hL.ul];exact hul) hL.ul hkk hkk3 h5 hL (by omega) hq h
  obtain⟨fr',wr',u',q',r1,r2⟩:=Av L run kk b1 A nu m n mm k v hv hvl hmm hul hkk hkk3 h5 j fr1 wr1 u1 q1 g2 (by omega) g3 g4
  exact⟨fr',wr',u',q',by rw[bU g1];exact r1,r2⟩
theorem v8 {hp:Θ}{id:Nat}{l:Ω}(h:aX hp id=some ⟨.live,l.map dg⟩)(n:Nat)(x:Bool)(hn:n≤l.length)(d:Nat) :
  Ab.snap hp (d+2) (.own id 1 0 n x)=some (.imm n x ((l.take n).map dg),[id]):=by
 rw[Ab.snap]
 simp only[h]
 rw[if_neg (by simp)]
 have:bF (bz (l.map dg) 0) (n*1)=some ((l.take n).map dg):=by
  rw[cD,drop_zero,Nat.mul_one,dk (by simpa using hn),map_take]
 rw[this]
 simp only[jY hp d]
theorem A3 (n:Nat)(x:Bool)(l:Ω)(h:l.length=n):canon (.imm n x (l.map dg))=aL l:=by
 rw[canon,jc,aL,h]
def LK:Lst:=[(167,jo),(181,nf)]
theorem ajx:dt base.P LK:=⟨iV,wi,trivial⟩
theorem abe:bC LK 167=fun a=>jo (aK a):=rfl
theorem Uw:bC LK 181=fun a=>nf (aK a):=rfl
theorem Ol:bC LK 190=fun _=>none:=rfl
theorem acJ {hp:Θ}{id n:Nat}{x:Bool}{l:Ω}(h:aX hp id=some ⟨.live,l.map dg⟩) :
  eK hp [] [] [] [.own id 1 0 n x]=some ([.own 0 1 0 n x],[⟨.live,l.map dg⟩]):=by
 have:=jY hp 11 l
 simp only[eK,h,bn,this]
 simp
theorem Pt {C:Cfg}{run:av}{dr:Bool}{hp hp1:Θ}{g:FuncId}{args args':Ψ}{wr:Ω}{n:Nat}{l:Ω}{rs:Ψ}
  (h1:C.shared g=false) (h2:bu (Ab.snap hp bn) args=some (args',[])) (h3:C.orc g args'=none) (h4:run g args' []=some (rs,hp1,wr))
  (h5:eK hp1 [] [] [] rs=some ([.own 0 1 0 n false],[⟨.live,l.map dg⟩])) :
  bS C run dr hp g args=some (.own hp.length 1 0 n false,hp++[⟨.live,l.map dg⟩],⟨[],[hp.length],true,false⟩):=by
 unfold bS
 simp[h1,h2,h3,h4,h5,eg,iL,sx,roB,upto]
theorem rT (K:Nat)(dr:Bool)(hp:Θ)(a:Ω)(b:Nat)(ha:Dok a)(hb:b<1000000000)(hl:a.length<1000000)(hk:a.length<K) :
  bS (CC LK) (runK (CC LK) (K+1)) dr hp 190 [aL a,dg b]=some (.own hp.length 1 0 (a.length+1) false,hp++[⟨.live,(db (a.length+1) (val a*b)).map dg⟩],⟨[],[hp.length],true,false⟩):=by
 obtain⟨hp1,wr,id,h1,h2⟩:=Hh LK (fun _=>rfl) a b K ha hb hl hk
 have e1:(CC LK).shared 190=false:=MM
 have e2:bu (Ab.snap hp bn) [aL a,dg b]=some ([aL a,dg b],[]):=rfl
 have e3:(CC LK).orc 190 [aL a,dg b]=none:=by
  show bC LK 190 [aL a,dg b]=none
  rw[Ol]
 exact Pt e1 e2 e3 h1 (acJ h2)
theorem Jo (run:av)(dr:Bool)(hp:Θ)(id n:Nat)(l:Ω)(hl:Dok l)(hn:l.length=n)(hn2:n<1000000)(h:aX hp id=some ⟨.live,l.map dg⟩) :
  bS (CC LK) run dr hp 167 [.own id 1 0 n false]=some (aL (aJ (val l)),roB hp [id],⟨[id],[id],false,false⟩):=by
 subst hn
 have h1:=v8 h l.length false (Nat.le_refl _) 10
 rw[take_length] at h1
 have h4:bu (Ab.snap hp bn) [.own id 1 0 l.length false]=some ([.imm l.length false (l.map dg)],[id]):=by
  show bu (Ab.snap hp 12) _=_
  simp only[bu,h1]
  rfl
 have h3:(CC LK).orc 167 [.imm l.length false (l.map dg)]=some [aL (aJ (val l))]:=by
  show bC LK 167 [.imm l.length false (l.map dg)]=_
  rw[abe]
  simp only[aK,A3 l.length false l rfl,jo,cZ hl hn2,eA hl]
 exact eI vg h4 h3 rfl
theorem FO (run:av)(dr:Bool)(hp:Θ)(id n b:Nat)(l:Ω)(hl:Dok l)(hn:n≤l.length)(hn2:n<1000000)(hb:0<b)(hb2:b<1000000000)(h:aX hp id=some ⟨.live,l.map dg⟩) :
  bS (CC LK) run dr hp 181 [.own id 1 0 n false,dg b]=some (.tup [aL (db n (val (l.take n) / b)),dg (val (l.take n) % b)],roB hp [id],⟨[id],[id],false,false⟩):=by
 obtain⟨b,rfl⟩:∃ c,b=c+1:=⟨b - 1,by omega⟩
 have h1:=v8 h n false hn 10
 have ht:(l.take n).length=n:=by rw[length_take];omega
 have h4:bu (Ab.snap hp bn) [.own id 1 0 n false,dg (b+1)]=some ([.imm n false ((l.take n).map dg),dg (b+1)],[id]):=by
  show bu (Ab.snap hp 12) _=_
  simp only[bu,h1]
  rfl
 have h3:(CC LK).orc 181 [.imm n false ((l.take n).map dg),dg (b+1)]=some [aL (db n (val (l.take n) / (b+1))),dg (val (l.take n) % (b+1))]:=by
  show bC LK 181 [.imm n false ((l.take n).map dg),dg (b+1)]=_
  rw[Uw]
  have e:aK [.imm n false ((l.take n).map dg),dg (b+1)]=[aL (l.take n),dg (b+1)]:=by
   simp only[aK,A3 n false (l.take n) ht];rfl
  simp only[e,nf,cZ (hl.take n) (by omega),Wx hb2,ht]
 exact eI De h4 h3 rfl
theorem OC (L:Lst)(run:av)(kk:Nat)(p q:PV) :
  ∃ fr wr,bh (CC L) run kk 1 gR ⟨entry 239 [p,q],[],[]⟩=some ⟨fr,[],wr⟩∧fr.length=239∧nth fr 0=p∧nth fr 1=q:=by
 obtain⟨e1,e2,e3⟩:=cb 237 p q
 generalize entry 239 [p,q]=fr0 at *
 simp[Tryz.f182,e1,e2,e3]
theorem OB (L:Lst)(run:av)(kk:Nat)(fr0:Ψ)(wr0:Ω)(a b:Ω)(n1 t s k:Nat)(hb:Dok b)(hl:b.length<1000000)(hn:b.length=n1+1)(ht:t=at0 b n1)(hs:s=t+1)(hk:k=1000000000 / s)(e1:fr0.length=239)(e2:nth fr0 0=aL a)(e3:nth fr0 1=aL b) :
  ∃ fr wr,bh (CC L) run kk 1 (ai 1 gR) ⟨fr0,[],wr0⟩=some ⟨fr,[],wr⟩∧fr.length=239∧nth fr 0=aL a∧nth fr 1=aL b∧nth fr 6=dg k:=by
 have hk2:k≤1000000000:=by rw[hk];exact Nat.div_le_self _ _
 have hq:Int.tdiv 1000000000 (s:Int)=(k:Int):=by rw[hk];exact (Int.ofNat_tdiv 1000000000 s).symm
 clear hk
 have hnb:n1<b.length:=by omega
 have hd:=da b n1 hnb
 have a1:=cn hb n1
 rw[← ht] at hd a1
 have hwn:bB .i64 ((b.length:Int) - 1)=(n1:Int):=by rw[cM b.length (by omega)];omega
 have hw0:=cp .u64 t (dA (by omega))
 have hw1:bB .u64 ((t:Int)+1)=(s:Int):=by
  rw[show ((t:Int)+1)=(s:Int) by omega];exact cp .u64 s (dA (by omega))
 have hw2:=cp .u64 k (dA (Nat.le_trans hk2 (by decide)))
 have hw3:bB .u32 (k:Int)=(k:Int):=cp .u32 k (iC (Nat.le_trans hk2 (by decide)))
 have hs0 : ¬ (s=0):=by rw[hs];exact Nat.succ_ne_zero t
 have e4:aL b = .imm b.length false (b.map dg):=rfl
 rw[e4] at e3 ⊢
 clear hs ht
 simp[Tryz.f182,e1,e2,e3,bM,bc,partOf,cR,u32,u64,a32,dF,aV,hnb,hd,hwn,hw0,hw1,hq,hw2,hw3,hs0,gM k]
theorem OA (run:av)(kk:Nat)(fr0:Ψ)(wr0:Ω)(a b v U V:Ω)(k:Nat)(fp1 fp2 fp3:FP)(n1 n2:Nat)(h239:fr0.length=239)(h0:nth fr0 0=aL a)(h1:nth fr0 1=aL b)(h6:nth fr0 6=dg k)
  (hc1:bS (CC LK) run false [] 190 [aL a,dg k]=some (.own 0 1 0 n1 false,[⟨.live,U.map dg⟩],fp1))
  (hc2:bS (CC LK) run false [⟨.live,U.map dg⟩] 190 [aL b,dg k]=some (.own 1 1 0 n2 false,[⟨.live,U.map dg⟩,⟨.live,V.map dg⟩],fp2))
  (hc3:bS (CC LK) run false [⟨.live,U.map dg⟩,⟨.live,V.map dg⟩] 167 [.own 1 1 0 n2 false]=some (aL v,[⟨.live,U.map dg⟩,⟨.ro,V.map dg⟩],fp3)) :
  ∃ fr wr,bh (CC LK) run kk 1 (ai 2 gR) ⟨fr0,[],wr0⟩=some ⟨fr,[⟨.live,U.map dg⟩,⟨.ro,V.map dg⟩],wr⟩∧fr.length=239∧nth fr 6=dg k∧nth fr 7 = .own 0 1 0 n1 false∧nth fr 8=aL v:=by
 simp[Tryz.f182,h239,h0,h1,h6,aM,hc1,hc2,hc3]
def IL:Code:=seq1 (seq1 (ai 5 gR))
theorem OK:ai 5 gR = .seq (.seq IL (.block 0 (.loop dU))) (ai 6 gR):=rfl
theorem Oz (L:Lst)(run:av)(kk:Nat)(fr0:Ψ)(wr0:Ω)(U V v:Ω)(k:PV)(nu m:Nat)(hul:nu<1000001)(hm:nu=v.length+m)(h239:fr0.length=239)(h6:nth fr0 6=k)(h7:nth fr0 7 = .own 0 1 0 nu false)(h8:nth fr0 8=aL v) :
  ∃ fr wr,bh (CC L) run kk 2 (ai 3 gR) ⟨fr0,[⟨.live,U.map dg⟩,⟨.ro,V.map dg⟩],wr0⟩=some ⟨fr,hpL ⟨.ro,V.map dg⟩ U (List.replicate m 0),wr⟩∧fr.length=239∧nth fr 4 = .own 2 1 0 m true∧nth fr 6=k∧nth fr 7 = .own 0 1 0 nu false∧nth fr 8=aL v∧nth fr 9=iI v.length:=by
 have hw:bB .i64 ((nu:Int) - (v.length:Int))=(m:Int):=jm .i64 nu v.length m hm (hiI (by omega))
 have h1:m≤cW:=Nat.le_trans (show m≤1000000 by omega) (by decide)
 have e4:aL v = .imm v.length false (v.map dg):=rfl
 have hr:hpL ⟨.ro,V.map dg⟩ U (List.replicate m 0)=[⟨.live,U.map dg⟩,⟨.ro,V.map dg⟩,⟨.live,rep m [dg 0]⟩]:=by rw[sK]
 rw[hr]
 rw[e4] at h8 ⊢
 simp[Tryz.f182,h239,h6,h7,h8,bM,cR,jb,b32,z32,bd,bZ,hw,h1]
theorem abP (L:Lst)(run:av)(kk:Nat)(fr0:Ψ)(hp:Θ)(wr0:Ω)(v:Ω)(k:PV)(nu m n:Nat)(hul:nu<1000001)(hm:nu=n+m)(hvl:v.length=n)(h239:fr0.length=239)(h4:nth fr0 4 = .own 2 1 0 m true)(h6:nth fr0 6=k)(h7:nth fr0 7 = .own 0 1 0 nu false)(h8:nth fr0 8=aL v)(h9:nth fr0 9=iI v.length) :
  ∃ fr,ae (CC L) run kk IL ⟨fr0,hp,wr0⟩=some (.normal,⟨fr,hp,wr0⟩)∧LH fr nu m k (.imm n false (v.map dg)) n m:=by
 subst hvl
 have hw:bB .i64 ((nu:Int) - (v.length:Int))=(m:Int):=jm .i64 nu v.length m hm (hiI (by omega))
 have hw2:=cM m (by omega)
 have e4:aL v = .imm v.length false (v.map dg):=rfl
 rw[e4] at h8
 simp[LH,IL,Tryz.f182,h239,h4,h6,h7,h8,h9,bM,jb,hw,hw2]
theorem OD (run:av)(kk:Nat)(fr0:Ψ)(wr0:Ω)(U q:Ω)(b1:Blk)(k nu m n J:Nat)(v x y:PV)(fp:FP)(hnu:n≤nu)(h:LH fr0 nu m (dg k) v n J)
  (hc:bS (CC LK) run false (hpL b1 U q) 181 [.own 0 1 0 n false,dg k]=some (.tup [x,y],[⟨.ro,U.map dg⟩,b1,⟨.live,q.map dg⟩],fp)) :
  ∃ st,ae (CC LK) run kk (ai 6 gR) ⟨fr0,hpL b1 U q,wr0⟩=some (.ret,st)∧aY TT st.fr st.hp Tryz.f182.results.toList=some [.own 2 1 0 m true,x]∧st.hp=[⟨.ro,U.map dg⟩,b1,⟨.live,q.map dg⟩]:=by
 obtain⟨h0,h4,h6,h7,h8,h9,h10⟩:=h
 simp[Tryz.f182,h0,h4,h6,h7,h9,aM,dH,jg,bnd,fG,gS,hnu,hc,aY]
def ES:Ψ→Option Ψ
 | [p,q]=>match gU p,gU q with
  | some a,some b=>bif uP b && Nat.ble 2 b.length && Nat.ble b.length a.length && Nat.ble a.length 900000 then some [aL (db (a.length+1 - b.length) (val a / val b)),aL (db b.length (val a % val b))] else none
  | _,_=>none
 | _=>none
theorem OP:Ab.Spec base.P 182 ES:=Ab.Spec.bL (C:=CC LK) (cP ajx) fun args rs h=>by
 unfold ES at h
 split at h
 ·split at h
  ·rename_i a b ea eb
   obtain⟨rfl,ha,hla⟩:=dy ea
   obtain⟨rfl,hb,hlb⟩:=dy eb
   cases hc:uP b && Nat.ble 2 b.length && Nat.ble b.length a.length && Nat.ble a.length 900000 with
   | false=>rw[hc] at h;cases h
   | true =>
    rw[hc] at h
    simp only[cond_true,OiE] at h
    subst h
    simp only[Bool.and_eq_true,Nat.ble_eq] at hc
    obtain⟨⟨⟨hc1,hc2⟩,hc3⟩,hc4⟩:=hc
    have hT:=m9 hc1
    obtain⟨mm,hmm⟩:∃ mm,b.length=mm+2:=⟨b.length - 2,by omega⟩
    obtain⟨k,hk⟩:∃ k,k=1000000000 / (at0 b (mm+1)+1):=⟨_,rfl⟩
    obtain⟨s1,s2,s3,s4,s5,s6⟩:=M9 hb hT hmm hk
    have hblt:val a*k<1000000000 ^ (a.length+1):=by
     rw[Nat.pow_succ]
     exact Nat.lt_of_lt_of_le (Nat.mul_lt_mul_of_pos_right (eM ha) s1) (Nat.mul_le_mul_left _ (by omega))
    have hVlt:val b*k<1000000000 ^ (b.length+1):=by
     rw[Nat.pow_succ]
     exact Nat.lt_of_lt_of_le (Nat.mul_lt_mul_of_pos_right (eM hb) s1) (Nat.mul_le_mul_left _ (by omega))
    have hb0:0<val b:=by
     rcases Nat.eq_zero_or_pos (val b) with h | h
     ·rw[h] at s3
      have:0<1000000000 ^ (mm+1+1):=Nat.pow_pos (by omega)
      omega
     ·exact h
    obtain⟨f0,wr0,p1,p2,p3,p4⟩:=OC LK (runK (CC LK) (a.length+3)) (a.length+3) (aL a) (aL b)
    obtain⟨f1,wr1,q1,q2,q3,q4,q5⟩:=OB LK (runK (CC LK) (a.length+3)) (a.length+3) f0 wr0 a b (mm+1) _ _ k hb hlb hmm rfl rfl hk p2 p3 p4
    have hc1':=rT (a.length+2) false [] a k ha s2 hla (by omega)
    have hc2':=rT (a.length+2) false [⟨.live,(db (a.length+1) (val a*k)).map dg⟩] b k hb s2 hlb (by omega)
    have hc3':=Jo (runK (CC LK) (a.length+3)) false [⟨.live,(db (a.length+1) (val a*k)).map dg⟩,⟨.live,(db (b.length+1) (val b*k)).map dg⟩] 1 (b.length+1) (db (b.length+1) (val b*k)) (gn _ _) (dq _ _) (by omega) rfl
    rw[fj _ _ hVlt] at hc3'
    obtain⟨f2,wr2,r1,r2,r3,r4,r5⟩:=OA (runK (CC LK) (a.length+3)) (a.length+3) f1 wr1 a b (aJ (val b*k)) _ _ k _ _ _ _ _ q2 q3 q4 q5 hc1' hc2' hc3'
    have hvl:(aJ (val b*k)).length=b.length:=by rw[s5,hmm]
    obtain⟨f3,wr3,t1,t2,t3,t4,t5,t6,t7⟩:=Oz LK (runK (CC LK) (a.length+3)) (a.length+3) f2 wr2 (db (a.length+1) (val a*k)) (db (b.length+1) (val b*k)) (aJ (val b*k)) (dg k) (a.length+1) (a.length+1 - b.length) (by omega) (by omega) r2 r3 r4 r5
    obtain⟨f4,w1,w2⟩:=abP LK (runK (CC LK) (a.length+3)) (a.length+3) f3 (hpL ⟨.ro,(db (b.length+1) (val b*k)).map dg⟩ (db (a.length+1) (val a*k)) (List.replicate (a.length+1 - b.length) 0)) wr3 (aJ (val b*k)) (dg k) (a.length+1) (a.length+1 - b.length) b.length (by omega) (by omega) hvl t2 t3 t4 t5 t6 t7
    have hLI:=LI.init (a:=val a) (b:=val b) (k:=k) (n:=b.length) (la:=a.length) (u:=db (a.length+1) (val a*k)) (by rw[fj _ _ hblt,Nat.mul_comm]) (gn _ _) (dq _ _) (eM ha) (by rw[hmm];exact s3) s1 (by omega)
    have hvv:val (aJ (val b*k))=k*val b:=by rw[bX,Nat.mul_comm]
    rw[← hvv] at hLI
    obtain⟨f5,wr5,u,q,x1,x2,x3,x4⟩:=Av LK (runK (CC LK) (a.length+3)) (a.length+3) ⟨.ro,(db (b.length+1) (val b*k)).map dg⟩ _ (a.length+1) (a.length+1 - b.length) b.length mm (dg k) (aJ (val b*k)) (bV _) hvl hmm (by omega) (by omega) (by omega) s6 (a.length+1 - b.length) f4 wr3 _ _ hLI (by omega) (by simp) w2
    rw[hvv] at x2
    obtain⟨y1,y2⟩:=x2.done s1 hb0
    have hul:=x2.ul
    have hmod:=Nat.mod_lt (val a) hb0
    have hsm:val u<1000000000 ^ b.length:=by
     rw[y2,hmm]
     refine Nat.lt_trans ?_ s4
     rw[Nat.mul_comm]
     exact Nat.mul_lt_mul_of_pos_right hmod s1
    have htk:=vT hsm
    have hc4':=FO (runK (CC LK) (a.length+3)) false (hpL ⟨.ro,(db (b.length+1) (val b*k)).map dg⟩ u q) 0 b.length k u x2.uok (by omega) (by omega) s1 s2 rfl
    rw[htk,y2,Nat.mul_div_cancel_left _ s1] at hc4'
    obtain⟨st,e1,e2,e3⟩:=OD (runK (CC LK) (a.length+3)) (a.length+3) f5 wr5 u q _ k (a.length+1) (a.length+1 - b.length) b.length 0 _ _ _ _ (by omega) x4 hc4'
    have hx:ae (CC LK) (runK (CC LK) (a.length+3)) (a.length+3) gR ⟨entry 239 [aL a,aL b],[],[]⟩=some (.ret,st):=by
     rw[aU 1 p1,aU 1 q1,show ai 1 (ai 1 gR)=ai 2 gR from rfl,aU 1 r1,show ai 1 (ai 2 gR)=ai 3 gR from rfl,aU 2 t1,show ai 2 (ai 3 gR)=ai 5 gR from rfl,OK,
      ao ((ao w1).trans (bD (bG x1 (by omega))))]
     exact e1
    have hq:q=db (a.length+1 - b.length) (val a / val b):=x2.qok.pQ (by have:=x2.ql;omega) y1
    have hs:=v8 (hp:=[⟨.ro,u.map dg⟩,⟨.ro,(db (b.length+1) (val b*k)).map dg⟩,⟨.live,q.map dg⟩]) (id:=2) (l:=q) rfl (a.length+1 - b.length) true (by omega) 10
    rw[take_of_length_le (by omega)] at hs
    refine⟨a.length+4,_,_,_,[.imm (a.length+1 - b.length) true (q.map dg),aL (db b.length (val a % val b))],[2],aZ PQ rfl hx e2,?_,?_,Wk.refl rfl,trivial⟩
    ·rw[e3]
     show bu (Ab.snap _ 12) _=_
     simp only[bu,hs]
     rfl
    ·rw[← hq]
     have:=Wk.imm (a.length+1 - b.length) true (q.map dg)
     rw[aL,x3]
     exact this
  ·cases h
 ·cases h
end Go.Proofs.YtjdmodeenbdfpaaGreat
end
