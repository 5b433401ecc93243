/- Contracts of num's integers, part 14; each lemma states its conditions. -/
import Derived.Test.YtjdmodeenbdfpaaGreatW13
set_option linter.unusedSimpArgs false
set_option linter.unusedVariables false
noncomputable section
namespace Go.Proofs.YtjdmodeenbdfpaaGreat
open Go Go.Ab List
attribute [local simp] FzZ LF aA aC aF aG aH aZ aa ab ae af ag ah ai aj an and_assoc ao aq au av bL bf bg dn eg uD
theorem xz (L:Lst)(run:aw)(kk:Nat)(b1:Blk)(u v q:Ω)(m n j g:Nat)(k:PV)(hu:Dok u)(hv:Dok v)(hvl:v.length=n)(hul:u.length<1000001)(hjn:j+n<u.length)(hg:g<1000000000) :
  ∀ (d i:Nat) (fr:Ψ) (wr:Ω) (c:Ω) (bo:Nat),i+d=n→MS u v c j g i bo→LF fr u.length m k (.imm n false (v.map dg)) n j→nth fr 12=iU g→nth fr 14=iI bo→nth fr 123=iI n→nth fr 124=iI i →
  ∃ (fr':Ψ) (wr' c':Ω) (bo':Nat),ch (af (CC L) run kk nQ) (d+1) ⟨fr,hpL b1 c q,wr⟩=some (.exit 4,⟨fr',hpL b1 c' q,wr'⟩)∧LF fr' u.length m k (.imm n false (v.map dg)) n j∧nth fr' 12=iU g∧nth fr' 14=iI bo'∧MS u v c' j g n bo'
 | 0,i,fr,wr,c,bo,hi,hM,h,h12,h14,h123,h124=>by
  have:i=n:=by omega
  subst this
  obtain⟨fr',q1,q2,q3,q4⟩:=Oy L run kk fr (hpL b1 c q) wr u.length m i j k _ _ _ h h12 h14 h123 h124
  exact⟨fr',wr,c,bo,bE q1,q2,q3,q4,hM⟩
 | d+1,i,fr,wr,c,bo,hi,hM,h,h12,h14,h123,h124=>by
  have hst:=hM.step hu hv (by omega)
  have hw:=aaM (u:=at0 u (j+i)) (v:=at0 v i) (g:=g) (bo:=bo) (p:=g*at0 v i) rfl (cu hu _) hg hM.le
  have hX:=H6 (at0 u (j+i)) (at0 v i) g bo
  have hcl:c.length=u.length:=hM.len
  have hat:=hM.at
  obtain⟨fr1,wr1,q1,q2,q3,q4,q5,q6⟩:∃ fr' wr',af (CC L) run kk nQ ⟨fr,hpL b1 c q,wr⟩=some (.normal,⟨fr',hpL b1 (c.set (j+i) (msX (at0 u (j+i)) (at0 v i) g bo)) q,wr'⟩)∧LF fr' c.length m k (.imm n false (v.map dg)) n j∧nth fr' 12=iU g∧nth fr' 14=iI (msB (at0 u (j+i)) (at0 v i) g bo)∧nth fr' 123=iI n∧nth fr' 124=iI (i+1):=by
   rw[← hcl] at h
   rcases hw with ⟨w1,w2,w3⟩| ⟨w1,w2,w3,w4⟩| ⟨w1,w2,w3⟩
   ·exact aa6 L run kk fr b1 wr c v q m n j (j+i) i g bo _ _ _ _ _ k hM.ok hv hvl (by omega) (Nat.add_comm _ _) (by omega) (by omega) hg hM.le rfl rfl rfl h h12 h14 h123 h124 hX (by rw[hat];exact w1) (by rw[hat];exact w2) w3
   ·exact aa5 L run kk fr b1 wr c v q m n j (j+i) i g bo _ _ _ _ _ k hM.ok hv hvl (by omega) (Nat.add_comm _ _) (by omega) (by omega) hg hM.le rfl rfl rfl h h12 h14 h123 h124 hX (by rw[hat];exact w1) (by rw[hat];exact w2) (by rw[hat];exact w3) w4
   ·exact aa4 L run kk fr b1 wr c v q m n j (j+i) i g bo _ _ _ _ _ k hM.ok hv hvl (by omega) (Nat.add_comm _ _) (by omega) (by omega) hg hM.le rfl rfl rfl h h12 h14 h123 h124 hX (by rw[hat];exact w1) (by rw[hat];exact w2) w3
  rw[hcl] at q2
  obtain⟨fr',wr',c',bo',r1,r2⟩:=xz L run kk b1 u v q m n j g k hu hv hvl hul hjn hg d (i+1) fr1 wr1 _ _ (by omega) hst q2 q3 q4 q5 q6
  exact⟨fr',wr',c',bo',by rw[ca q1];exact r1,r2⟩
theorem OC (L:Lst)(run:aw)(kk:Nat)(fr:Ψ)(hp:Θ)(wr:Ω)(nu m n j:Nat)(k v g x c:PV)(h:LF fr nu m k v n j)(h12:nth fr 12=g)(h17:nth fr 17=x)(h18:nth fr 18=c)(h188:nth fr 188=iI n)(h189:nth fr 189=iI n) :
  ∃ fr',af (CC L) run kk Ax ⟨fr,hp,wr⟩=some (.exit 6,⟨fr',hp,wr⟩)∧LF fr' nu m k v n j∧nth fr' 12=g∧nth fr' 17=x∧nth fr' 18=c:=by
 obtain⟨h0,h4,h6,h7,h8,h9,h10⟩:=h
 simp[Ax,Tryz.f182,h0,h4,h6,h7,h8,h9,h10,h12,h17,h18,h188,h189]
set_option maxHeartbeats 4000000 in
theorem EZ (L:Lst)(run:aw)(kk:Nat)(fr:Ψ)(b1:Blk)(wr:Ω)(c v q:Ω)(m n j p i cy s:Nat)(k g x:PV)(hc:Dok c)(hv:Dok v)(hvl:v.length=n)(hcl:c.length<1000001)
  (hp:p=i+j) (hi:i<n) (hpc:p<c.length) (hcy:cy≤1) (hs:s=at0 c p+at0 v i+cy)
  (h:LF fr c.length m k (.imm n false (v.map dg)) n j) (h12:nth fr 12=g) (h17:nth fr 17=x) (h18:nth fr 18 = .sc (.int .u32 (cy:Int))) (h188:nth fr 188=iI n) (h189:nth fr 189=iI i) :
  ∃ fr' wr',af (CC L) run kk Ax ⟨fr,hpL b1 c q,wr⟩=some (.normal,⟨fr',hpL b1 (c.set p (s % 1000000000)) q,wr'⟩)∧LF fr' c.length m k (.imm n false (v.map dg)) n j∧nth fr' 12=g∧nth fr' 17=x∧nth fr' 18 = .sc (.int .u32 ((s / 1000000000:Nat):Int))∧nth fr' 188=iI n∧nth fr' 189=iI (i+1):=by
 obtain⟨h0,h4,h6,h7,h8,h9,h10⟩:=h
 have hiv:i<v.length:=by omega
 have hd1:=cY c p hpc
 have hd2:=cY v i hiv
 have a1:=cu hc p
 have a2:=cu hv i
 obtain⟨X,hX⟩:∃ X,X=s % 1000000000:=⟨_,rfl⟩
 obtain⟨Q,hQ⟩:∃ Q,Q=s / 1000000000:=⟨_,rfl⟩
 have hov:=jn c p X hpc
 generalize at0 c p=a at *
 generalize at0 v i=b at *
 obtain⟨s1,hs1⟩:∃ s1,s1=a+b:=⟨_,rfl⟩
 rw[← hs1] at hs
 rw[← hX,← hQ]
 have hwp:=dA .i64 i j p hp (hiI (by omega))
 have hw0:=dA .u32 a b s1 hs1 (iM (by omega))
 have hw1:=dA .u32 s1 cy s hs (iM (by omega))
 have hw2:=jK .u32 s Q hQ (iM (by omega))
 have hw3:=lG s X hX
 have hwi:=bA i (by omega)
 simp[Ax,Tryz.f182,aU,bh,partOf,bd,du,gh,h0,h4,h6,h7,h8,h9,h10,h12,h17,h18,h188,h189,s32,a32,aX,aP,bZ,hpc,hi,hd1,hd2,hov,hwp,hw0,hw1,hw2,hw3,hwi,gV X,number,FP.free]
theorem xB (L:Lst)(run:aw)(kk:Nat)(b1:Blk)(u v q:Ω)(m n j:Nat)(k g x:PV)(hu:Dok u)(hv:Dok v)(hvl:v.length=n)(hul:u.length<1000001)(hjn:j+n<u.length) :
  ∀ (d i:Nat) (fr:Ψ) (wr:Ω) (c:Ω) (cy:Nat),i+d=n→AB u v c j i cy→LF fr u.length m k (.imm n false (v.map dg)) n j→nth fr 12=g→nth fr 17=x→nth fr 18 = .sc (.int .u32 (cy:Int))→nth fr 188=iI n→nth fr 189=iI i →
  ∃ (fr':Ψ) (wr' c':Ω) (cy':Nat),ch (af (CC L) run kk Ax) (d+1) ⟨fr,hpL b1 c q,wr⟩=some (.exit 6,⟨fr',hpL b1 c' q,wr'⟩)∧LF fr' u.length m k (.imm n false (v.map dg)) n j∧nth fr' 12=g∧nth fr' 17=x∧nth fr' 18 = .sc (.int .u32 (cy':Int))∧AB u v c' j n cy'
 | 0,i,fr,wr,c,cy,hi,hM,h,h12,h17,h18,h188,h189=>by
  have:i=n:=by omega
  subst this
  obtain⟨fr',q1,q2,q3,q4,q5⟩:=OC L run kk fr (hpL b1 c q) wr u.length m i j k _ _ _ _ h h12 h17 h18 h188 h189
  exact⟨fr',wr,c,cy,bE q1,q2,q3,q4,q5,hM⟩
 | d+1,i,fr,wr,c,cy,hi,hM,h,h12,h17,h18,h188,h189=>by
  have hst:=hM.step hu hv (by omega)
  have hcl:c.length=u.length:=hM.len
  have hat:=hM.at
  rw[← hcl] at h
  obtain⟨fr1,wr1,q1,q2,q3,q4,q5,q6,q7⟩:=EZ L run kk fr b1 wr c v q m n j (j+i) i cy _ k g x hM.ok hv hvl (by omega) (Nat.add_comm _ _) (by omega) (by omega) hM.le (congrArg (· + at0 v i+cy) hat.symm) h h12 h17 h18 h188 h189
  rw[hcl] at q2
  obtain⟨fr',wr',c',cy',r1,r2⟩:=xB L run kk b1 u v q m n j k g x hu hv hvl hul hjn d (i+1) fr1 wr1 _ _ (by omega) hst q2 q3 q4 q5 q6 q7
  exact⟨fr',wr',c',cy',by rw[ca q1];exact r1,r2⟩
def Cc:Code:=seq1 (seq1 (ag 4 dn))
def oS:Code:=seq1 (seq1 (ag 6 dn))
def mW:Code:=match bn (seq1 (ag 6 dn)) with | .cond _ a _=>a | c=>c
def Cb:Code:=seq1 (seq1 (ag 2 mW))
theorem OH:ag 2 dn = .seq (.block 2 (.loop kR)) (ag 3 dn):=rfl
theorem OG:ag 4 dn = .seq (.seq Cc (.block 4 (.loop nQ))) (ag 5 dn):=rfl
theorem OE:ag 6 dn = .seq (.seq oS (.cond (.tmp 185) mW .skip)) (ag 7 dn):=rfl
theorem U7:ag 2 mW = .seq (.seq Cb (.block 6 (.loop Ax))) (ag 3 mW):=rfl
theorem U9:eg = .seq (seq1 eg) (.seq (.block 1 dn) (ag 2 eg)):=rfl
theorem U4 (L:Lst)(run:aw)(kk:Nat)(fr:Ψ)(hp:Θ)(wr:Ω)(nu m n j:Nat)(k v g:PV)(h:LF fr nu m k v n j)(h12:nth fr 12=g) :
  ∃ fr',ba (CC L) run kk 1 (ag 3 dn) ⟨fr,hp,wr⟩=some ⟨fr',hp,wr⟩∧LF fr' nu m k v n j∧nth fr' 12=g∧nth fr' 14=iI 0:=by
 obtain⟨h0,h4,h6,h7,h8,h9,h10⟩:=h
 simp[Tryz.f182,ba,h0,h4,h6,h7,h8,h9,h10,h12]
theorem U3 (L:Lst)(run:aw)(kk:Nat)(fr:Ψ)(hp:Θ)(wr:Ω)(nu m n j:Nat)(k v g b:PV)(h:LF fr nu m k v n j)(h12:nth fr 12=g)(h14:nth fr 14=b) :
  ∃ fr',af (CC L) run kk Cc ⟨fr,hp,wr⟩=some (.normal,⟨fr',hp,wr⟩)∧LF fr' nu m k v n j∧nth fr' 12=g∧nth fr' 14=b∧nth fr' 123=iI n∧nth fr' 124=iI 0:=by
 obtain⟨h0,h4,h6,h7,h8,h9,h10⟩:=h
 simp[Cc,Tryz.f182,seq1,h0,h4,h6,h7,h8,h9,h10,h12,h14]
theorem U2 (L:Lst)(run:aw)(kk:Nat)(fr:Ψ)(b1:Blk)(wr:Ω)(c q:Ω)(m n j p bo:Nat)(k v g:PV)(hc:Dok c)(hcl:c.length<1000001)(hp:p=j+n)(hpc:p<c.length)(hbo:bo<1000000000)(h:LF fr c.length m k v n j)(h12:nth fr 12=g)(h14:nth fr 14=iI bo) :
  ∃ fr',ba (CC L) run kk 1 (ag 5 dn) ⟨fr,hpL b1 c q,wr⟩=some ⟨fr',hpL b1 c q,wr⟩∧LF fr' c.length m k v n j∧nth fr' 12=g∧nth fr' 17 = .sc (.int .i64 ((at0 c p:Int) - (bo:Int))):=by
 obtain⟨h0,h4,h6,h7,h8,h9,h10⟩:=h
 have hd1:=cY c p hpc
 have a1:=cu hc p
 generalize at0 c p=x at *
 have hwp:=dA .i64 j n p hp (hiI (by omega))
 have hw0:=cq .i64 x (hiI (by omega))
 have hwx:bF .i64 ((x:Int) - (bo:Int))=(x:Int) - (bo:Int):=fA _ (by omega) (by omega)
 simp[Tryz.f182,ba,aU,bh,partOf,h0,h4,h6,h7,h8,h9,h10,h12,h14,QI,u32,s32,a32,dI,aX,aP,hpc,hd1,hwp,hw0,hwx]
theorem U1 (L:Lst)(run:aw)(kk:Nat)(fr:Ψ)(hp:Θ)(wr:Ω)(nu m n j:Nat)(k v g:PV)(z:Int)(h:LF fr nu m k v n j)(h12:nth fr 12=g)(h17:nth fr 17 = .sc (.int .i64 z)) :
  ∃ fr',af (CC L) run kk oS ⟨fr,hp,wr⟩=some (.normal,⟨fr',hp,wr⟩)∧LF fr' nu m k v n j∧nth fr' 12=g∧nth fr' 17 = .sc (.int .i64 z)∧nth fr' 185 = .sc (.bool (decide (z<0))):=by
 obtain⟨h0,h4,h6,h7,h8,h9,h10⟩:=h
 simp[oS,Tryz.f182,seq1,h0,h4,h6,h7,h8,h9,h10,h12,h17]
theorem U0 (L:Lst)(run:aw)(kk:Nat)(fr:Ψ)(hp:Θ)(wr:Ω)(nu m n j g:Nat)(k v z:PV)(hg:g<999999999)(h:LF fr nu m k v n j)(h12:nth fr 12=iU (g+1))(h17:nth fr 17=z) :
  ∃ fr',ba (CC L) run kk 2 mW ⟨fr,hp,wr⟩=some ⟨fr',hp,wr⟩∧LF fr' nu m k v n j∧nth fr' 12=iU g∧nth fr' 17=z∧nth fr' 18 = .sc (.int .u32 (0:Nat)):=by
 obtain⟨h0,h4,h6,h7,h8,h9,h10⟩:=h
 obtain⟨g',hg'⟩:∃ g',g'=g+1:=⟨_,rfl⟩
 rw[← hg'] at h12
 have hw7:bF .u64 ((g':Int) - 1)=(g:Int):=by
  rw[show ((g':Int) - 1)=(g:Int) by omega];exact cq .u64 g (dC (by omega))
 simp[mW,Tryz.f182,seq1,bn,ba,h0,h4,h6,h7,h8,h9,h10,h12,h17,hw7]
theorem UZ (L:Lst)(run:aw)(kk:Nat)(fr:Ψ)(hp:Θ)(wr:Ω)(nu m n j:Nat)(k v g z c:PV)(h:LF fr nu m k v n j)(h12:nth fr 12=g)(h17:nth fr 17=z)(h18:nth fr 18=c) :
  ∃ fr',af (CC L) run kk Cb ⟨fr,hp,wr⟩=some (.normal,⟨fr',hp,wr⟩)∧LF fr' nu m k v n j∧nth fr' 12=g∧nth fr' 17=z∧nth fr' 18=c∧nth fr' 188=iI n∧nth fr' 189=iI 0:=by
 obtain⟨h0,h4,h6,h7,h8,h9,h10⟩:=h
 simp[Cb,mW,Tryz.f182,seq1,bn,h0,h4,h6,h7,h8,h9,h10,h12,h17,h18]
theorem UY (L:Lst)(run:aw)(kk:Nat)(fr:Ψ)(hp:Θ)(wr:Ω)(nu m n j c:Nat)(k v g:PV)(z:Int)(h:LF fr nu m k v n j)(h12:nth fr 12=g)(h17:nth fr 17 = .sc (.int .i64 z))(h18:nth fr 18 = .sc (.int .u32 (c:Int))) :
  ∃ fr',af (CC L) run kk (ag 3 mW) ⟨fr,hp,wr⟩=some (.normal,⟨fr',hp,wr⟩)∧LF fr' nu m k v n j∧nth fr' 12=g:=by
 obtain⟨h0,h4,h6,h7,h8,h9,h10⟩:=h
 simp[mW,Tryz.f182,seq1,bn,h0,h4,h6,h7,h8,h9,h10,h12,h17,h18,QI,u32,dI]
theorem UX (L:Lst)(run:aw)(kk:Nat)(fr:Ψ)(b1:Blk)(wr:Ω)(c q:Ω)(n j p g:Nat)(k v:PV)(hcl:c.length<1000001)(hp:p=j+n)(hpc:p<c.length)(hjq:j<q.length)(hg:g<1000000000)(h:LF fr c.length q.length k v n j)(h12:nth fr 12=iU g) :
  ∃ fr' wr',af (CC L) run kk (ag 7 dn) ⟨fr,hpL b1 c q,wr⟩=some (.normal,⟨fr',hpL b1 (c.set p 0) (q.set j g),wr'⟩)∧LF fr' c.length q.length k v n j:=by
 obtain⟨h0,h4,h6,h7,h8,h9,h10⟩:=h
 have hwp:=dA .i64 j n p hp (hiI (by omega))
 have hw0:bF .u32 (g:Int)=(g:Int):=cq .u32 g (iM (by omega))
 have hov:=jn c p 0 hpc
 have hov2:=jn q j g hjq
 have hz:PV.sc (.int .u32 0)=dg 0:=rfl
 simp[Tryz.f182,aU,bh,bd,du,gh,h0,h4,h6,h7,h8,h9,h10,h12,u32,u64,s32,dI,aP,bZ,hpc,hjq,hwp,hw0,hov,hov2,gV g,hz]
def LH (fr:Ψ)(nu m:Nat)(k v:PV)(n J:Nat):Prop :=
 fr.length=239∧nth fr 4 = .own 2 1 0 m true∧nth fr 6=k∧nth fr 7 = .own 0 1 0 nu false∧nth fr 8=v∧nth fr 9=iI n∧nth fr 10 = .sc (.int .i64 ((J:Int) - 1))
theorem aa2 (L:Lst)(run:aw)(kk:Nat)(fr:Ψ)(hp:Θ)(wr:Ω)(nu m n j:Nat)(k v:PV)(hj:j<1000001)(h:LF fr nu m k v n j) :
  ∃ fr',af (CC L) run kk (ag 2 eg) ⟨fr,hp,wr⟩=some (.normal,⟨fr',hp,wr⟩)∧LH fr' nu m k v n j:=by
 obtain⟨h0,h4,h6,h7,h8,h9,h10⟩:=h
 have hw:=cM j (by omega)
 simp[LH,Tryz.f182,h0,h4,h6,h7,h8,h9,h10,hw]
theorem Ij (L:Lst)(run:aw)(kk:Nat)(fr:Ψ)(hp:Θ)(wr:Ω)(nu m n:Nat)(k v:PV)(h:LH fr nu m k v n 0) :
  ∃ fr',af (CC L) run kk eg ⟨fr,hp,wr⟩=some (.exit 0,⟨fr',hp,wr⟩)∧LH fr' nu m k v n 0:=by
 obtain⟨h0,h4,h6,h7,h8,h9,h10⟩:=h
 simp only[Int.natCast_zero,Int.zero_sub] at h10
 simp[LH,Tryz.f182,h0,h4,h6,h7,h8,h9,h10]
theorem Ii (L:Lst)(run:aw)(kk:Nat)(fr:Ψ)(hp:Θ)(wr:Ω)(nu m n j:Nat)(k v:PV)(h:LH fr nu m k v n (j+1)) :
  ∃ fr',af (CC L) run kk (seq1 eg) ⟨fr,hp,wr⟩=some (.normal,⟨fr',hp,wr⟩)∧LF fr' nu m k v n j:=by
 obtain⟨h0,h4,h6,h7,h8,h9,h10⟩:=h
 rw[show (((j+1:Nat):Int) - 1)=(j:Int) by omega] at h10
 simp[Tryz.f182,seq1,h0,h4,h6,h7,h8,h9,h10]
theorem uw {C:Cfg}{run:aw}{k:Nat}{c:Operand}{a b:Code}{st:St}(h:aj st.fr c = .sc (.bool true)):af C run k (.cond c a b) st=af C run k a st:=by
 simp only[af,h]
theorem ux {C:Cfg}{run:aw}{k:Nat}{c:Operand}{a b:Code}{st:St}(h:aj st.fr c = .sc (.bool false)):af C run k (.cond c a b) st=af C run k b st:=by
 simp only[af,h]
theorem AJ {C:Cfg}{run:aw}{k:Nat}{st:St} : af C run k .skip st=some (.normal,st):=by simp only[af]
theorem Ih (L:Lst)(run:aw)(kk:Nat)(fr:Ψ)(b1:Blk)(wr:Ω)(A nu m n mm j:Nat)(k:PV)(u v q:Ω)(hv:Dok v)(hvl:v.length=n)(hmm:n=mm+2)(hul:u.length<1000001)(hnu:u.length=nu)(hkk:n+1≤kk)(hkk3:3≤kk)
  (h5:500000000≤at0 v (mm+1)) (hL:LI A (val v) n nu u q (j+1)) (hj:j+n<nu) (hq:q.length=m) (h:LH fr nu m k (.imm n false (v.map dg)) n (j+1)) :
  ∃ (fr':Ψ) (wr' u' q':Ω),af (CC L) run kk eg ⟨fr,hpL b1 u q,wr⟩=some (.normal,⟨fr',hpL b1 u' q',wr'⟩)∧LI A (val v) n nu u' q' j∧q'.length=m∧LH fr' nu m k (.imm n false (v.map dg)) n j:=by
 have hu:=hL.uok
 subst hnu
 have hVlt:val v<1000000000 ^ n:=by have:=eX hv;rwa [hvl] at this
 obtain⟨s1,s2,s3⟩:=hL.seg hVlt
 have hn3:n+1=mm+3:=by omega
 rw[hn3] at s3
 have hV0:0<val v:=by
  rw[qm v mm (by omega)]
  have:0<1000000000 ^ mm:=Nat.pow_pos (by omega)
  have:0<(at0 v (mm+1)*1000000000+at0 v mm)*1000000000 ^ mm:=Nat.mul_pos (by omega) this
  omega
 have htop:=OM hv (by omega) s3
 obtain⟨f1,p1,p2⟩:=Ii L run kk fr (hpL b1 u q) wr u.length m n j k _ h
 obtain⟨f2,q1,q2,q3,q4⟩:=aa1 L run kk f1 b1 wr u v q m n j (j+mm+2) (j+mm+1) (mm+1) _ _ k hu hv hvl hul (by omega) (by omega) (by omega) (by omega) rfl rfl (by omega) p2
 have hg9:=GI.le (v2:=0) (u2:=0) h5 htop
 have hu2:=cu hu (j+mm)
 obtain⟨f3,g,r1,r2,r3,r4⟩:=xA L run kk b1 wr u v q m n j (j+mm+2) (j+mm) (mm+1) mm _ _ _ _ k hu hv hvl hul (by omega) (by omega) (by omega) (by omega) (by omega) rfl rfl rfl htop h5 3 f2 _ _
  (Nat.lt_trans (Nat.mod_lt _ (by omega)) (cu hv (mm+1))) (by omega) hg9 (GI.init (by omega) hu2) q2 q3 q4
 have hgq:=ON hu hv (by omega) (by omega) s3 r4
 have hgB:=r4.1
 obtain⟨f4,t1,t2,t3,t4⟩:=U4 L run kk f3 (hpL b1 u q) wr u.length m n j k _ _ r2 r3
 obtain⟨f5,w1,w2,w3,w4,w5,w6⟩:=U3 L run kk f4 (hpL b1 u q) wr u.length m n j k _ _ _ t2 t3 t4
 obtain⟨f6,wr6,c6,bo,x1,x2,x3,x4,x5⟩:=xz L run kk b1 u v q m n j g k hu hv hvl hul hj hgB n 0 f5 wr u 0 (by omega) (MS.init hu j g) w2 w3 w4 w5 w6
 have hc6:c6.length=u.length:=x5.len
 rw[← hc6] at x2
 have hbo:=x5.le
 obtain⟨f7,y1,y2,y3,y4⟩:=U2 L run kk f6 b1 wr6 c6 q m n j (j+n) bo k _ _ x5.ok (by omega) rfl (by omega) (by omega) x2 x3 x4
 obtain⟨f8,z1,z2,z3,z4,z5⟩:=U1 L run kk f7 (hpL b1 c6 q) wr6 c6.length m n j k _ _ _ y2 y3 y4
 have hat:at0 c6 (j+n)=at0 u (j+n):=x5.at
 have hsegu:val ((u.drop j).take (n+1))=at0 u (j+n)*1000000000 ^ n+val ((u.drop j).take n):=by rw[gw];omega
 have hdm:=Nat.div_add_mod (val ((u.drop j).take (n+1))) (val v)
 have hmod:=Nat.mod_lt (val ((u.drop j).take (n+1))) hV0
 have hms:=x5.eq
 rw[cH v n (by omega)] at hms
 have hR:=BC x5.ok j n
 have hdB:val ((u.drop j).take (n+1)) / val v<1000000000:=by
  rw[hn3];exact Nat.div_lt_of_lt_mul s3
 rw[← hn3] at hgq
 have fin:∀ (f:Ψ) (wrx c:Ω),LF f c.length m k (.imm n false (v.map dg)) n j→nth f 12=iU (val ((u.drop j).take (n+1)) / val v)→c.length=u.length→Dok c→c.take j=u.take j→c.drop (j+n+1)=u.drop (j+n+1) →
   val ((c.drop j).take n)=val ((u.drop j).take (n+1)) % val v →
   ∃ (fr':Ψ) (wr' u' q':Ω),(match af (CC L) run kk (ag 7 dn) ⟨f,hpL b1 c q,wrx⟩ with | some (.normal,st')=>af (CC L) run kk (ag 2 eg) st' | r=>r)=some (.normal,⟨fr',hpL b1 u' q',wr'⟩)∧LI A (val v) n u.length u' q' j∧q'.length=m∧LH fr' u.length m k (.imm n false (v.map dg)) n j:=by
  intro f wrx c hf h12 hcl hok hlow hhigh hseg
  have hqj:j<q.length:=by have:=hL.ql;omega
  rw[← hq] at hf
  obtain⟨f9,wr9,a1,a2⟩:=UX L run kk f b1 wrx c q n j (j+n) _ k _ (by omega) rfl (by omega) hqj hdB hf h12
  obtain⟨f10,b1',b2⟩:=aa2 L run kk f9 (hpL b1 (c.set (j+n) 0) (q.set j (val ((u.drop j).take (n+1)) / val v))) wr9 c.length q.length n j k _ (by omega) a2
  refine⟨f10,wr9,c.set (j+n) 0,q.set j (val ((u.drop j).take (n+1)) / val v),?_,?_,by rw[length_set,hq],?_⟩
  ·rw[a1];exact b1'
  ·refine hL.next hVlt hV0 hj (by rw[length_set];exact hcl) (hok.set _ (by omega)) ?_ ?_ ?_ ?_ hdB
   ·rw[take_set_of_le (by omega),hlow]
   ·rw[drop_set_of_lt (by omega),hhigh]
   ·unfold at0;rw[getElem?_set_self (by omega)];rfl
   ·rw[← hseg]
    congr 1
    rw[drop_set,if_neg (by omega),take_set_of_le (by omega)]
  ·rw[← hcl,← hq];exact b2
 have hhigh6:c6.drop (j+n+1)=u.drop (j+n+1):=by
  rw[← drop_drop,x5.high,drop_drop]
 have hpre:∀ (f:Ψ) (wrx c:Ω),af (CC L) run kk (.seq oS (.cond (.tmp 185) mW .skip)) ⟨f7,hpL b1 c6 q,wr6⟩=some (.normal,⟨f,hpL b1 c q,wrx⟩) →
   af (CC L) run kk eg ⟨fr,hpL b1 u q,wr⟩=match af (CC L) run kk (ag 7 dn) ⟨f,hpL b1 c q,wrx⟩ with | some (.normal,st')=>af (CC L) run kk (ag 2 eg) st' | some (.exit i,st')=>(if i=1 then af (CC L) run kk (ag 2 eg) st' else some (.exit i,st')) | r=>r:=by
  intro f wrx c hx
  have hB:af (CC L) run kk dn ⟨f1,hpL b1 u q,wr⟩=af (CC L) run kk (ag 7 dn) ⟨f,hpL b1 c q,wrx⟩:=by
   rw[aQ 2 q1,OH,ar (bK (bT r1 hkk3)),aQ 1 t1,show ag 1 (ag 3 dn)=ag 4 dn from rfl,OG,
    ar ((ar w1).trans (bK (bT x1 hkk))),aQ 1 y1,show ag 1 (ag 5 dn)=ag 6 dn from rfl,OE,ar hx]
  rw[U9,ar p1]
  simp only[af,hB]
  cases af (CC L) run kk (ag 7 dn) ⟨f,hpL b1 c q,wrx⟩ with
  | none=>rfl
  | some r =>
   obtain⟨e,st⟩:=r
   cases e with
   | exit i =>
    by_cases hi:i=1
    ·subst hi;rfl
    ·simp[hi]
   | _=>rfl
 by_cases hneg:at0 u (j+n)<bo
 ·
  rw[hat] at z5 z4
  have hz5:decide (((at0 u (j+n):Nat):Int) - (bo:Int)<0)=true:=decide_eq_true (by omega)
  rw[hz5] at z5
  have hgd:g=val ((u.drop j).take (n+1)) / val v+1:=by
   rcases hgq with h' | h'
   ·exfalso
    have:=ET (un:=at0 u (j+n)) hR (Nat.lt_trans hmod hVlt) hms (by rw[h',Nat.mul_comm _ (val v),hdm];exact hsegu.symm)
    omega
   ·exact h'
  obtain⟨e1,e2⟩:=KQ (un:=at0 u (j+n)) (q:=val ((u.drop j).take (n+1)) / val v) hR hmod hVlt (by rw[← hgd];exact hms) (by rw[Nat.mul_comm _ (val v),hdm];exact hsegu.symm)
  rw[hgd] at z3
  rw[hgd] at hgB
  obtain⟨f9,a1,a2,a3,a4,a5⟩:=U0 L run kk f8 (hpL b1 c6 q) wr6 c6.length m n j _ k _ _ (by omega) z2 z3 z4
  obtain⟨f10,b1',b2,b3,b4,b5,b6,b7⟩:=UZ L run kk f9 (hpL b1 c6 q) wr6 c6.length m n j k _ _ _ _ a2 a3 a4 a5
  obtain⟨f11,wr11,c11,cy,d1,d2,d3,d4,d5,d6⟩:=xB L run kk b1 c6 v q m n j k _ _ x5.ok hv hvl (by omega) (by omega) n 0 f10 wr6 c6 0 (by omega) (AB.init x5.ok j) b2 b3 b4 b5 b6 b7
  obtain⟨f12,g1,g2,g3⟩:=UY L run kk f11 (hpL b1 c11 q) wr11 c6.length m n j cy k _ _ _ d2 d3 d4 d5
  have hc11:c11.length=c6.length:=d6.len
  have hx:af (CC L) run kk (.seq oS (.cond (.tmp 185) mW .skip)) ⟨f7,hpL b1 c6 q,wr6⟩=some (.normal,⟨f12,hpL b1 c11 q,wr11⟩):=by
   rw[ar z1,uw (by simpa [aj] using z5),aQ 2 a1,U7,ar ((ar b1').trans (bK (bT d1 hkk)))]
   exact g1
  have hab:=d6.eq
  rw[cH v n (by omega)] at hab
  obtain⟨fr',wr',u',q',k1,k2⟩:=fin f12 wr11 c11 (by rw[hc11];exact g2) g3 (by omega) d6.ok (by rw[d6.low,x5.low]) (by rw[← hhigh6,← drop_drop,d6.high,drop_drop]) (agw (BC d6.ok j n) hmod hVlt e2 hab d6.le)
  refine⟨fr',wr',u',q',?_,k2⟩
  rw[hpre f12 wr11 c11 hx]
  revert k1
  cases af (CC L) run kk (ag 7 dn) ⟨f12,hpL b1 c11 q,wr11⟩ with
  | none=>intro k1;exact k1
  | some r =>
   obtain⟨e,st⟩:=r
   cases e <;> simp
 ·rw[hat] at z5 z4
  have hz5:decide (((at0 u (j+n):Nat):Int) - (bo:Int)<0)=false:=decide_eq_false (by omega)
  rw[hz5] at z5
  have hgd:g=val ((u.drop j).take (n+1)) / val v∧val ((c6.drop j).take n)=val ((u.drop j).take (n+1)) % val v:=by
   rcases hgq with h' | h'
   ·have:=ET (un:=at0 u (j+n)) hR (Nat.lt_trans hmod hVlt) hms (by rw[h',Nat.mul_comm _ (val v),hdm];exact hsegu.symm)
    exact⟨h',this.2⟩
   ·exfalso
    obtain⟨e1,e2⟩:=KQ (un:=at0 u (j+n)) (q:=val ((u.drop j).take (n+1)) / val v) hR hmod hVlt (by rw[← h'];exact hms) (by rw[Nat.mul_comm _ (val v),hdm];exact hsegu.symm)
    omega
  rw[hgd.1] at z3
  have hx:af (CC L) run kk (.seq oS (.cond (.tmp 185) mW .skip)) ⟨f7,hpL b1 c6 q,wr6⟩=some (.normal,⟨f8,hpL b1 c6 q,wr6⟩):=by
   rw[ar z1,ux (by simpa [aj] using z5),AJ]
  obtain⟨fr',wr',u',q',k1,k2⟩:=fin f8 wr6 c6 z2 z3 hc6 x5.ok x5.low hhigh6 hgd.2
  refine⟨fr',wr',u',q',?_,k2⟩
  rw[hpre f8 wr6 c6 hx]
  revert k1
  cases af (CC L) run kk (ag 7 dn) ⟨f8,hpL b1 c6 q,wr6⟩ with
  | none=>intro k1;exact k1
  | some r =>
   obtain⟨e,st⟩:=r
   cases e <;> simp
theorem Av (L:Lst)(run:aw)(kk:Nat)(b1:Blk)(A nu m n mm:Nat)(k:PV)(v:Ω)(hv:Dok v)(hvl:v.length=n)(hmm:n=mm+2)(hul:nu<1000001)(hkk:n+1≤kk)(hkk3:3≤kk)(h5:500000000≤at0 v (mm+1)) :
  ∀ (J:Nat) (fr:Ψ) (wr u q:Ω),LI A (val v) n nu u q J→J+n≤nu→q.length=m→LH fr nu m k (.imm n false (v.map dg)) n J →
  ∃ (fr':Ψ) (wr' u' q':Ω),ch (af (CC L) run kk eg) (J+1) ⟨fr,hpL b1 u q,wr⟩=some (.exit 0,⟨fr',hpL b1 u' q',wr'⟩)∧LI A (val v) n nu u' q' 0∧q'.length=m∧LH fr' nu m k (.imm n false (v.map dg)) n 0
 | 0,fr,wr,u,q,hL,hJ,hq,h=>by
  obtain⟨fr',g1,g2⟩:=Ij L run kk fr (hpL b1 u q) wr nu m n k _ h
  exact⟨fr',wr,u,q,bE g1,hL,hq,g2⟩
 | j+1,fr,wr,u,q,hL,hJ,hq,h=>by
  obtain⟨fr1,wr1,u1,q1,g1,g2,g3,g4⟩:=Ih L run kk fr b1 wr A nu m n mm j k u v q hv hvl hmm (by rw[hL.ul];exact hul) hL.ul hkk hkk3 h5 hL (by omega) hq h
  obtain⟨fr',wr',u',q',r1,r2⟩:=Av L run kk b1 A nu m n mm k v hv hvl hmm hul hkk hkk3 h5 j fr1 wr1 u1 q1 g2 (by omega) g3 g4
  exact⟨fr',wr',u',q',by rw[ca g1];exact r1,r2⟩
theorem vX {hp:Θ}{id:Nat}{l:Ω}(h:aP hp id=some ⟨.live,l.map dg⟩)(n:Nat)(x:Bool)(hn:n≤l.length)(d:Nat) :
  Ab.snap hp (d+2) (.own id 1 0 n x)=some (.imm n x ((l.take n).map dg),[id]):=by
 rw[Ab.snap]
 simp only[h]
 rw[if_neg (by simp)]
 have:bD (bq (l.map dg) 0) (n*1)=some ((l.take n).map dg):=by
  rw[cA,drop_zero,Nat.mul_one,dc (by simpa using hn),map_take]
 rw[this]
 simp only[kg hp d]
theorem AZ (n:Nat)(x:Bool)(l:Ω)(h:l.length=n):canon (.imm n x (l.map dg))=aO l:=by
 rw[canon,jg,aO,h]
def LK:Lst:=[(167,ju),(181,m9)]
theorem aja:dt base.P LK:=⟨iV,wb,trivial⟩
theorem aap:bt LK 167=fun a=>ju (aJ a):=rfl
theorem Ue:bt LK 181=fun a=>m9 (aJ a):=rfl
theorem N8:bt LK 190=fun _=>none:=rfl
theorem abI {hp:Θ}{id n:Nat}{x:Bool}{l:Ω}(h:aP hp id=some ⟨.live,l.map dg⟩) :
  eW hp [] [] [] [.own id 1 0 n x]=some ([.own 0 1 0 n x],[⟨.live,l.map dg⟩]):=by
 have:=kg hp 11 l
 simp only[eW,h,bp,this]
 simp
theorem Pm {C:Cfg}{run:aw}{dr:Bool}{hp hp1:Θ}{g:FuncId}{args args':Ψ}{wr:Ω}{n:Nat}{l:Ω}{rs:Ψ}
  (h1:C.shared g=false) (h2:bj (Ab.snap hp bp) args=some (args',[])) (h3:C.orc g args'=none) (h4:run g args' []=some (rs,hp1,wr))
  (h5:eW hp1 [] [] [] rs=some ([.own 0 1 0 n false],[⟨.live,l.map dg⟩])) :
  bU C run dr hp g args=some (.own hp.length 1 0 n false,hp++[⟨.live,l.map dg⟩],⟨[],[hp.length],true,false⟩):=by
 unfold bU
 simp[h1,h2,h3,h4,h5,ed,ja,sk,roB,upto]
theorem rV (K:Nat)(dr:Bool)(hp:Θ)(a:Ω)(b:Nat)(ha:Dok a)(hb:b<1000000000)(hl:a.length<1000000)(hk:a.length<K) :
  bU (CC LK) (runK (CC LK) (K+1)) dr hp 190 [aO a,dg b]=some (.own hp.length 1 0 (a.length+1) false,hp++[⟨.live,(db (a.length+1) (val a*b)).map dg⟩],⟨[],[hp.length],true,false⟩):=by
 obtain⟨hp1,wr,id,h1,h2⟩:=G3 LK (fun _=>rfl) a b K ha hb hl hk
 have e1:(CC LK).shared 190=false:=MA
 have e2:bj (Ab.snap hp bp) [aO a,dg b]=some ([aO a,dg b],[]):=rfl
 have e3:(CC LK).orc 190 [aO a,dg b]=none:=by
  show bt LK 190 [aO a,dg b]=none
  rw[N8]
 exact Pm e1 e2 e3 h1 (abI h2)
theorem I0 (run:aw)(dr:Bool)(hp:Θ)(id n:Nat)(l:Ω)(hl:Dok l)(hn:l.length=n)(hn2:n<1000000)(h:aP hp id=some ⟨.live,l.map dg⟩) :
  bU (CC LK) run dr hp 167 [.own id 1 0 n false]=some (aO (aK (val l)),roB hp [id],⟨[id],[id],false,false⟩):=by
 subst hn
 have h1:=vX h l.length false (Nat.le_refl _) 10
 rw[take_length] at h1
 have h4:bj (Ab.snap hp bp) [.own id 1 0 l.length false]=some ([.imm l.length false (l.map dg)],[id]):=by
  show bj (Ab.snap hp 12) _=_
  simp only[bj,h1]
  rfl
 have h3:(CC LK).orc 167 [.imm l.length false (l.map dg)]=some [aO (aK (val l))]:=by
  show bt LK 167 [.imm l.length false (l.map dg)]=_
  rw[aap]
  simp only[aJ,AZ l.length false l rfl,ju,cX hl hn2,eJ hl]
 exact et vd h4 h3 rfl
theorem FO (run:aw)(dr:Bool)(hp:Θ)(id n b:Nat)(l:Ω)(hl:Dok l)(hn:n≤l.length)(hn2:n<1000000)(hb:0<b)(hb2:b<1000000000)(h:aP hp id=some ⟨.live,l.map dg⟩) :
  bU (CC LK) run dr hp 181 [.own id 1 0 n false,dg b]=some (.tup [aO (db n (val (l.take n) / b)),dg (val (l.take n) % b)],roB hp [id],⟨[id],[id],false,false⟩):=by
 obtain⟨b,rfl⟩:∃ c,b=c+1:=⟨b - 1,by omega⟩
 have h1:=vX h n false hn 10
 have ht:(l.take n).length=n:=by rw[length_take];omega
 have h4:bj (Ab.snap hp bp) [.own id 1 0 n false,dg (b+1)]=some ([.imm n false ((l.take n).map dg),dg (b+1)],[id]):=by
  show bj (Ab.snap hp 12) _=_
  simp only[bj,h1]
  rfl
 have h3:(CC LK).orc 181 [.imm n false ((l.take n).map dg),dg (b+1)]=some [aO (db n (val (l.take n) / (b+1))),dg (val (l.take n) % (b+1))]:=by
  show bt LK 181 [.imm n false ((l.take n).map dg),dg (b+1)]=_
  rw[Ue]
  have e:aJ [.imm n false ((l.take n).map dg),dg (b+1)]=[aO (l.take n),dg (b+1)]:=by
   simp only[aJ,AZ n false (l.take n) ht];rfl
  simp only[e,m9,cX (hl.take n) (by omega),Wp hb2,ht]
 exact et Dv h4 h3 rfl
theorem Ow (L:Lst)(run:aw)(kk:Nat)(p q:PV) :
  ∃ fr wr,ba (CC L) run kk 1 gZ ⟨entry 239 [p,q],[],[]⟩=some ⟨fr,[],wr⟩∧fr.length=239∧nth fr 0=p∧nth fr 1=q:=by
 obtain⟨e1,e2,e3⟩:=cC 237 p q
 generalize entry 239 [p,q]=fr0 at *
 simp[gZ,Tryz.f182,ba,e1,e2,e3]
theorem Ov (L:Lst)(run:aw)(kk:Nat)(fr0:Ψ)(wr0:Ω)(a b:Ω)(n1 t s k:Nat)(hb:Dok b)(hl:b.length<1000000)(hn:b.length=n1+1)(ht:t=at0 b n1)(hs:s=t+1)(hk:k=1000000000 / s)(e1:fr0.length=239)(e2:nth fr0 0=aO a)(e3:nth fr0 1=aO b) :
  ∃ fr wr,ba (CC L) run kk 1 (ag 1 gZ) ⟨fr0,[],wr0⟩=some ⟨fr,[],wr⟩∧fr.length=239∧nth fr 0=aO a∧nth fr 1=aO b∧nth fr 6=dg k:=by
 have hk2:k≤1000000000:=by rw[hk];exact Nat.div_le_self _ _
 have hq:Int.tdiv 1000000000 (s:Int)=(k:Int):=by rw[hk];exact (Int.ofNat_tdiv 1000000000 s).symm
 clear hk
 have hnb:n1<b.length:=by omega
 have hd:=cY b n1 hnb
 have a1:=cu hb n1
 rw[← ht] at hd a1
 have hwn:bF .i64 ((b.length:Int) - 1)=(n1:Int):=by rw[cM b.length (by omega)];omega
 have hw0:=cq .u64 t (dC (by omega))
 have hw1:bF .u64 ((t:Int)+1)=(s:Int):=by
  rw[show ((t:Int)+1)=(s:Int) by omega];exact cq .u64 s (dC (by omega))
 have hw2:=cq .u64 k (dC (Nat.le_trans hk2 (by decide)))
 have hw3:bF .u32 (k:Int)=(k:Int):=cq .u32 k (iM (Nat.le_trans hk2 (by decide)))
 have hs0 : ¬ (s=0):=by rw[hs];exact Nat.succ_ne_zero t
 have e4:aO b = .imm b.length false (b.map dg):=rfl
 rw[e4] at e3 ⊢
 clear hs ht
 simp[gZ,Tryz.f182,ba,e1,e2,e3,aU,bh,partOf,cR,u32,u64,s32,a32,dI,aX,hnb,hd,hwn,hw0,hw1,hq,hw2,hw3,hs0,gV k]
theorem Ou (run:aw)(kk:Nat)(fr0:Ψ)(wr0:Ω)(a b v U V:Ω)(k:Nat)(fp1 fp2 fp3:FP)(n1 n2:Nat)(h239:fr0.length=239)(h0:nth fr0 0=aO a)(h1:nth fr0 1=aO b)(h6:nth fr0 6=dg k)
  (hc1:bU (CC LK) run false [] 190 [aO a,dg k]=some (.own 0 1 0 n1 false,[⟨.live,U.map dg⟩],fp1))
  (hc2:bU (CC LK) run false [⟨.live,U.map dg⟩] 190 [aO b,dg k]=some (.own 1 1 0 n2 false,[⟨.live,U.map dg⟩,⟨.live,V.map dg⟩],fp2))
  (hc3:bU (CC LK) run false [⟨.live,U.map dg⟩,⟨.live,V.map dg⟩] 167 [.own 1 1 0 n2 false]=some (aO v,[⟨.live,U.map dg⟩,⟨.ro,V.map dg⟩],fp3)) :
  ∃ fr wr,ba (CC LK) run kk 1 (ag 2 gZ) ⟨fr0,[],wr0⟩=some ⟨fr,[⟨.live,U.map dg⟩,⟨.ro,V.map dg⟩],wr⟩∧fr.length=239∧nth fr 6=dg k∧nth fr 7 = .own 0 1 0 n1 false∧nth fr 8=aO v:=by
 simp[gZ,Tryz.f182,ba,h239,h0,h1,h6,aM,hc1,hc2,hc3]
def Ik:Code:=seq1 (seq1 (ag 5 gZ))
theorem OD:ag 5 gZ = .seq (.seq Ik (.block 0 (.loop eg))) (ag 6 gZ):=rfl
theorem Ot (L:Lst)(run:aw)(kk:Nat)(fr0:Ψ)(wr0:Ω)(U V v:Ω)(k:PV)(nu m:Nat)(hul:nu<1000001)(hm:nu=v.length+m)(h239:fr0.length=239)(h6:nth fr0 6=k)(h7:nth fr0 7 = .own 0 1 0 nu false)(h8:nth fr0 8=aO v) :
  ∃ fr wr,ba (CC L) run kk 2 (ag 3 gZ) ⟨fr0,[⟨.live,U.map dg⟩,⟨.ro,V.map dg⟩],wr0⟩=some ⟨fr,hpL ⟨.ro,V.map dg⟩ U (List.replicate m 0),wr⟩∧fr.length=239∧nth fr 4 = .own 2 1 0 m true∧nth fr 6=k∧nth fr 7 = .own 0 1 0 nu false∧nth fr 8=aO v∧nth fr 9=iI v.length:=by
 have hw:bF .i64 ((nu:Int) - (v.length:Int))=(m:Int):=yX .i64 nu v.length m hm (hiI (by omega))
 have h1:m≤cN:=Nat.le_trans (show m≤1000000 by omega) (by decide)
 have e4:aO v = .imm v.length false (v.map dg):=rfl
 have hr:hpL ⟨.ro,V.map dg⟩ U (List.replicate m 0)=[⟨.live,U.map dg⟩,⟨.ro,V.map dg⟩,⟨.live,rep m [dg 0]⟩]:=by rw[sA]
 rw[hr]
 rw[e4] at h8 ⊢
 simp[gZ,Tryz.f182,ba,h239,h6,h7,h8,bh,cR,iq,s32,b32,z32,aL,bQ,hw,h1]
theorem aa3 (L:Lst)(run:aw)(kk:Nat)(fr0:Ψ)(hp:Θ)(wr0:Ω)(v:Ω)(k:PV)(nu m n:Nat)(hul:nu<1000001)(hm:nu=n+m)(hvl:v.length=n)(h239:fr0.length=239)(h4:nth fr0 4 = .own 2 1 0 m true)(h6:nth fr0 6=k)(h7:nth fr0 7 = .own 0 1 0 nu false)(h8:nth fr0 8=aO v)(h9:nth fr0 9=iI v.length) :
  ∃ fr,af (CC L) run kk Ik ⟨fr0,hp,wr0⟩=some (.normal,⟨fr,hp,wr0⟩)∧LH fr nu m k (.imm n false (v.map dg)) n m:=by
 subst hvl
 have hw:bF .i64 ((nu:Int) - (v.length:Int))=(m:Int):=yX .i64 nu v.length m hm (hiI (by omega))
 have hw2:=cM m (by omega)
 have e4:aO v = .imm v.length false (v.map dg):=rfl
 rw[e4] at h8
 simp[LH,Ik,gZ,Tryz.f182,seq1,h239,h4,h6,h7,h8,h9,iq,hw,hw2]
theorem Ox (run:aw)(kk:Nat)(fr0:Ψ)(wr0:Ω)(U q:Ω)(b1:Blk)(k nu m n J:Nat)(v x y:PV)(fp:FP)(hnu:n≤nu)(h:LH fr0 nu m (dg k) v n J)
  (hc:bU (CC LK) run false (hpL b1 U q) 181 [.own 0 1 0 n false,dg k]=some (.tup [x,y],[⟨.ro,U.map dg⟩,b1,⟨.live,q.map dg⟩],fp)) :
  ∃ st,af (CC LK) run kk (ag 6 gZ) ⟨fr0,hpL b1 U q,wr0⟩=some (.ret,st)∧bc TT st.fr st.hp Tryz.f182.results.toList=some [.own 2 1 0 m true,x]∧st.hp=[⟨.ro,U.map dg⟩,b1,⟨.live,q.map dg⟩]:=by
 obtain⟨h0,h4,h6,h7,h8,h9,h10⟩:=h
 simp[gZ,Tryz.f182,h0,h4,h6,h7,h9,aM,bh,s32,dh,iy,bnd,eD,fz,hnu,hc,bc]
def E8:Ψ→Option Ψ
 | [p,q]=>match ia p,ia q with
  | some a,some b=>bif uM b && Nat.ble 2 b.length && Nat.ble b.length a.length && Nat.ble a.length 900000 then some [aO (db (a.length+1 - b.length) (val a / val b)),aO (db b.length (val a % val b))] else none
  | _,_=>none
 | _=>none
theorem OJ:Ab.Spec base.P 182 E8:=Ab.Spec.bN (C:=CC LK) (cP aja) fun args rs h=>by
 unfold E8 at h
 split at h
 ·split at h
  ·rename_i a b ea eb
   obtain⟨rfl,ha,hla⟩:=dz ea
   obtain⟨rfl,hb,hlb⟩:=dz eb
   cases hc:uM b && Nat.ble 2 b.length && Nat.ble b.length a.length && Nat.ble a.length 900000 with
   | false=>rw[hc] at h;cases h
   | true =>
    rw[hc] at h
    simp only[cond_true,OiE] at h
    subst h
    simp only[Bool.and_eq_true,Nat.ble_eq] at hc
    obtain⟨⟨⟨hc1,hc2⟩,hc3⟩,hc4⟩:=hc
    have hT:=m6 hc1
    obtain⟨mm,hmm⟩:∃ mm,b.length=mm+2:=⟨b.length - 2,by omega⟩
    obtain⟨k,hk⟩:∃ k,k=1000000000 / (at0 b (mm+1)+1):=⟨_,rfl⟩
    obtain⟨s1,s2,s3,s4,s5,s6⟩:=MP hb hT hmm hk
    have hblt:val a*k<1000000000 ^ (a.length+1):=by
     rw[Nat.pow_succ]
     exact Nat.lt_of_lt_of_le (Nat.mul_lt_mul_of_pos_right (eX ha) s1) (Nat.mul_le_mul_left _ (by omega))
    have hVlt:val b*k<1000000000 ^ (b.length+1):=by
     rw[Nat.pow_succ]
     exact Nat.lt_of_lt_of_le (Nat.mul_lt_mul_of_pos_right (eX hb) s1) (Nat.mul_le_mul_left _ (by omega))
    have hb0:0<val b:=by
     rcases Nat.eq_zero_or_pos (val b) with h | h
     ·rw[h] at s3
      have:0<1000000000 ^ (mm+1+1):=Nat.pow_pos (by omega)
      omega
     ·exact h
    obtain⟨f0,wr0,p1,p2,p3,p4⟩:=Ow LK (runK (CC LK) (a.length+3)) (a.length+3) (aO a) (aO b)
    obtain⟨f1,wr1,q1,q2,q3,q4,q5⟩:=Ov LK (runK (CC LK) (a.length+3)) (a.length+3) f0 wr0 a b (mm+1) _ _ k hb hlb hmm rfl rfl hk p2 p3 p4
    have hc1':=rV (a.length+2) false [] a k ha s2 hla (by omega)
    have hc2':=rV (a.length+2) false [⟨.live,(db (a.length+1) (val a*k)).map dg⟩] b k hb s2 hlb (by omega)
    have hc3':=I0 (runK (CC LK) (a.length+3)) false [⟨.live,(db (a.length+1) (val a*k)).map dg⟩,⟨.live,(db (b.length+1) (val b*k)).map dg⟩] 1 (b.length+1) (db (b.length+1) (val b*k)) (gD _ _) (dp _ _) (by omega) rfl
    rw[fo _ _ hVlt] at hc3'
    obtain⟨f2,wr2,r1,r2,r3,r4,r5⟩:=Ou (runK (CC LK) (a.length+3)) (a.length+3) f1 wr1 a b (aK (val b*k)) _ _ k _ _ _ _ _ q2 q3 q4 q5 hc1' hc2' hc3'
    have hvl:(aK (val b*k)).length=b.length:=by rw[s5,hmm]
    obtain⟨f3,wr3,t1,t2,t3,t4,t5,t6,t7⟩:=Ot LK (runK (CC LK) (a.length+3)) (a.length+3) f2 wr2 (db (a.length+1) (val a*k)) (db (b.length+1) (val b*k)) (aK (val b*k)) (dg k) (a.length+1) (a.length+1 - b.length) (by omega) (by omega) r2 r3 r4 r5
    obtain⟨f4,w1,w2⟩:=aa3 LK (runK (CC LK) (a.length+3)) (a.length+3) f3 (hpL ⟨.ro,(db (b.length+1) (val b*k)).map dg⟩ (db (a.length+1) (val a*k)) (List.replicate (a.length+1 - b.length) 0)) wr3 (aK (val b*k)) (dg k) (a.length+1) (a.length+1 - b.length) b.length (by omega) (by omega) hvl t2 t3 t4 t5 t6 t7
    have hLI:=LI.init (a:=val a) (b:=val b) (k:=k) (n:=b.length) (la:=a.length) (u:=db (a.length+1) (val a*k)) (by rw[fo _ _ hblt,Nat.mul_comm]) (gD _ _) (dp _ _) (eX ha) (by rw[hmm];exact s3) s1 (by omega)
    have hvv:val (aK (val b*k))=k*val b:=by rw[bV,Nat.mul_comm]
    rw[← hvv] at hLI
    obtain⟨f5,wr5,u,q,x1,x2,x3,x4⟩:=Av LK (runK (CC LK) (a.length+3)) (a.length+3) ⟨.ro,(db (b.length+1) (val b*k)).map dg⟩ _ (a.length+1) (a.length+1 - b.length) b.length mm (dg k) (aK (val b*k)) (bS _) hvl hmm (by omega) (by omega) (by omega) s6 (a.length+1 - b.length) f4 wr3 _ _ hLI (by omega) (by simp) w2
    rw[hvv] at x2
    obtain⟨y1,y2⟩:=x2.done s1 hb0
    have hul:=x2.ul
    have hmod:=Nat.mod_lt (val a) hb0
    have hsm:val u<1000000000 ^ b.length:=by
     rw[y2,hmm]
     refine Nat.lt_trans ?_ s4
     rw[Nat.mul_comm]
     exact Nat.mul_lt_mul_of_pos_right hmod s1
    have htk:=vK hsm
    have hc4':=FO (runK (CC LK) (a.length+3)) false (hpL ⟨.ro,(db (b.length+1) (val b*k)).map dg⟩ u q) 0 b.length k u x2.uok (by omega) (by omega) s1 s2 rfl
    rw[htk,y2,Nat.mul_div_cancel_left _ s1] at hc4'
    obtain⟨st,e1,e2,e3⟩:=Ox (runK (CC LK) (a.length+3)) (a.length+3) f5 wr5 u q _ k (a.length+1) (a.length+1 - b.length) b.length 0 _ _ _ _ (by omega) x4 hc4'
    have hx:af (CC LK) (runK (CC LK) (a.length+3)) (a.length+3) gZ ⟨entry 239 [aO a,aO b],[],[]⟩=some (.ret,st):=by
     rw[aQ 1 p1,aQ 1 q1,show ag 1 (ag 1 gZ)=ag 2 gZ from rfl,aQ 1 r1,show ag 1 (ag 2 gZ)=ag 3 gZ from rfl,aQ 2 t1,show ag 2 (ag 3 gZ)=ag 5 gZ from rfl,OD,
      ar ((ar w1).trans (bK (bT x1 (by omega))))]
     exact e1
    have hq:q=db (a.length+1 - b.length) (val a / val b):=x2.qok.pS (by have:=x2.ql;omega) y1
    have hs:=vX (hp:=[⟨.ro,u.map dg⟩,⟨.ro,(db (b.length+1) (val b*k)).map dg⟩,⟨.live,q.map dg⟩]) (id:=2) (l:=q) rfl (a.length+1 - b.length) true (by omega) 10
    rw[take_of_length_le (by omega)] at hs
    refine⟨a.length+4,_,_,_,[.imm (a.length+1 - b.length) true (q.map dg),aO (db b.length (val a % val b))],[2],aV PM rfl hx e2,?_,?_,Wk.refl rfl,trivial⟩
    ·rw[e3]
     show bj (Ab.snap _ 12) _=_
     simp only[bj,hs]
     rfl
    ·rw[← hq]
     have:=Wk.imm (a.length+1 - b.length) true (q.map dg)
     rw[aO,x3]
     exact this
  ·cases h
 ·cases h
def AU (p:PV):Option Nat:=match ia p with
 | some l=>bif uM l then some (val l) else none
 | none=>none
theorem x9 {p:PV}{n:Nat}(h:AU p=some n):p=aO (aK n)∧(aK n).length<1000000:=by
 unfold AU at h
 split at h
 ·rename_i l e
  obtain⟨h1,h2,h3⟩:=dz e
  cases ht:uM l with
  | false=>rw[ht] at h;cases h
  | true =>
   rw[ht] at h
   simp at h;subst h
   rw[ku h2 (m6 ht)]
   exact⟨h1,h3⟩
 ·cases h
theorem l5 {n:Nat}(h:(aK n).length<1000000):AU (aO (aK n))=some n:=by
 simp[AU,cX (bS n) h,qv (jD n),bV]
def L3:Lst:=[(167,ju),(146,tG),(181,m9),(182,E8)]
theorem aje:dt base.P L3:=⟨iV,zj,wb,OJ,trivial⟩
theorem aau:bt L3 146=fun a=>tG (aJ a):=rfl
theorem Ui:bt L3 181=fun a=>m9 (aJ a):=rfl
theorem aav:bt L3 182=fun a=>E8 (aJ a):=rfl
theorem rF {y:Nat}(h:1000000000≤y):2≤(aK y).length:=by
 rcases Nat.lt_or_ge (aK y).length 2 with h2 | h2
 ·have h3:=fD y
  have h4:(1000000000:Nat) ^ (aK y).length≤1000000000 ^ 1:=Nat.pow_le_pow_right (by omega) (by omega)
  omega
 ·exact h2
theorem I4 (run:aw)(dr:Bool)(hp:Θ)(x y:Nat)(hx:(aK x).length≤900000)(hy:1000000000≤y)(hxy:y≤x) :
  bU (CC L3) run dr hp 182 [aO (aK x),aO (aK y)]=some (.tup [aO (db ((aK x).length+1 - (aK y).length) (x / y)),aO (db (aK y).length (x % y))],hp,⟨[],[],false,false⟩):=by
 have h1:=rF hy
 have h2:=cG hxy
 have h3:Nat.ble 2 (aK y).length=true:=Nat.ble_eq ▸ h1
 have h4:Nat.ble (aK y).length (aK x).length=true:=Nat.ble_eq ▸ h2
 have h5:Nat.ble (aK x).length 900000=true:=Nat.ble_eq ▸ hx
 exact bu YP aav run dr hp _ [aO (db ((aK x).length+1 - (aK y).length) (x / y)),aO (db (aK y).length (x % y))] (mR hp _ _) (kB _ _)
  (by simp only[E8,cX (bS x) (show (aK x).length<1000000 by omega),cX (bS y) (show (aK y).length<1000000 by omega),qv (jD y),h3,h4,h5,Bool.and_self,cond_true,bV])
theorem qe (run:aw)(dr:Bool)(hp:Θ)(x y:Nat)(hx:(aK x).length<1000000)(hy:(aK y).length<1000000) :
  bU (CC L3) run dr hp 146 [aO (aK x),aO (aK y)]=some (Ab.bJ (dZ x y),hp,⟨[],[],false,false⟩) :=
 bu J2 aau run dr hp _ [Ab.bJ (dZ x y)] (mR hp _ _) (kB _ _) (by simp only[tG,cX (bS _) hx,cX (bS _) hy,mc])
theorem FU (run:aw)(dr:Bool)(hp:Θ)(x b:Nat)(hx:(aK x).length<1000000)(hb:0<b)(hb2:b<1000000000) :
  bU (CC L3) run dr hp 181 [aO (aK x),dg b]=some (.tup [aO (db (aK x).length (x / b)),dg (x % b)],hp,⟨[],[],false,false⟩):=by
 obtain⟨b,rfl⟩:∃ c,b=c+1:=⟨b - 1,by omega⟩
 exact bu Dv Ui run dr hp [aO (aK x),dg (b+1)] [aO (db (aK x).length (x / (b+1))),dg (x % (b+1))] rfl (by simp only[aJ,fH];rfl) (by simp only[m9,cX (bS _) hx,Wp hb2,bV])
theorem I3 (run:aw)(dr:Bool)(hp:Θ)(r:Nat)(hr:r<1000000000) :
  bU (CC L3) run dr hp 167 [.imm 1 true [dg r]]=some (aO (aK r),hp,⟨[],[],false,false⟩):=by
 have h3:(CC L3).orc 167 [.imm 1 true [dg r]]=some [aO (aK r)]:=by
  show ju (aJ [.imm 1 true [dg r]])=_
  have h1:aJ [.imm 1 true [dg r]]=[aO [r]]:=rfl
  have h2:Dok [r]:=Dok.nil.cons hr
  rw[h1]
  simp only[ju,cX h2 (by simp),eJ h2]
  simp[val]
 have h4:bj (snap hp bp) [.imm 1 true [dg r]]=some ([.imm 1 true [dg r]],[]):=rfl
 exact et vd h4 h3 rfl
def sP:Code:=Tryz.f166.body.getD .skip
theorem EB (run:aw)(k:Nat)(x y:Nat)(hx:(aK x).length<1000000)(hy:(aK y).length<1000000)(hxy:x<y) :
  ∃ st,af (CC L3) run k sP ⟨entry 35 [aO (aK x),aO (aK y)],[],[]⟩=some (.ret,st)∧bc TT st.fr st.hp Tryz.f166.results.toList=some [.sc (.slice none 0 0),aO (aK x)]:=by
 have hc:=fun hp dr=>qe run dr hp x y hx hy
 rw[dZ,if_pos hxy] at hc
 simp only[Ab.bJ] at hc
 obtain⟨e1,e2,e3⟩:=cC 33 (aO (aK x)) (aO (aK y))
 generalize entry 35 [aO (aK x),aO (aK y)]=fr0 at *
 generalize aK x=a at *
 generalize aK y=b at *
 simp[sP,Tryz.f166,aM,e1,e2,e3,hc,bc]
theorem oa {y:Nat}(h:0<y)(h2:y<1000000000):aK y=[y]:=by
 rw[eo (by omega),Nat.mod_eq_of_lt h2,Nat.div_eq_of_lt h2,ft]
set_option maxHeartbeats 1000000 in
theorem EA (run:aw)(k:Nat)(x y:Nat)(hx:(aK x).length<1000000)(hy0:0<y)(hy:y<1000000000)(hxy:y≤x) :
  ∃ st,af (CC L3) run k sP ⟨entry 35 [aO (aK x),aO (aK y)],[],[]⟩=some (.ret,st)∧bc TT st.fr st.hp Tryz.f166.results.toList=some [aO (db (aK x).length (x / y)),aO (aK (x % y))]:=by
 have hly:(aK y).length<1000000:=by rw[oa hy0 hy];simp
 have hc:=fun hp dr=>qe run dr hp x y hx hly
 have hcz : ¬ (dZ x y<0):=by
  unfold dZ
  rw[if_neg (by omega)]
  by_cases h:x=y
  ·rw[if_pos h];omega
  ·rw[if_neg h];omega
 have hc2:=fun hp dr=>FU run dr hp x y hx hy0 hy
 have hc3:=fun hp dr=>I3 run dr hp (x % y) (Nat.lt_trans (Nat.mod_lt _ hy0) hy)
 rw[oa hy0 hy] at hc ⊢
 simp only[Ab.bJ] at hc
 obtain⟨e1,e2,e3⟩:=cC 33 (aO (aK x)) (aO [y])
 generalize entry 35 [aO (aK x),aO [y]]=fr0 at *
 generalize aK (x % y)=rr at *
 generalize db (aK x).length (x / y)=qq at *
 generalize aK x=a at *
 generalize dZ x y=cc at *
 generalize x % y=r at *
 have e4:aO [y] = .imm 1 false [dg y]:=rfl
 rw[e4] at hc e3
 simp[sP,Tryz.f166,soft,eu,aM,aU,jX,partOf,cR,e1,e2,e3,hc,hc2,hc3,hcz,s32,a32,aX,bq,nV,jN,bc]
set_option maxHeartbeats 1000000 in
theorem Ez (run:aw)(k:Nat)(x y:Nat)(hx:(aK x).length≤900000)(hy:1000000000≤y)(hxy:y≤x) :
  ∃ st,af (CC L3) run k sP ⟨entry 35 [aO (aK x),aO (aK y)],[],[]⟩=some (.ret,st)∧bc TT st.fr st.hp Tryz.f166.results.toList=some [aO (db ((aK x).length+1 - (aK y).length) (x / y)),aO (db (aK y).length (x % y))]:=by
 have hly:(aK y).length<1000000:=Nat.lt_of_le_of_lt (cG hxy) (by omega)
 have hc:=fun hp dr=>qe run dr hp x y (by omega) hly
 have hcz : ¬ (dZ x y<0):=by
  unfold dZ
  rw[if_neg (by omega)]
  by_cases h:x=y
  ·rw[if_pos h];omega
  ·rw[if_neg h];omega
 have hc2:=fun hp dr=>I4 run dr hp x y hx hy hxy
 have hl1:(((aK y).length:Int) == 1)=false:=by rw[beq_eq_false_iff_ne];have:=rF hy;omega
 simp only[Ab.bJ] at hc
 obtain⟨e1,e2,e3⟩:=cC 33 (aO (aK x)) (aO (aK y))
 generalize entry 35 [aO (aK x),aO (aK y)]=fr0 at *
 generalize db ((aK x).length+1 - (aK y).length) (x / y)=qq at *
 generalize db (aK y).length (x % y)=rr at *
 generalize aK x=a at *
 generalize aK y=b at *
 generalize dZ x y=cc at *
 simp[sP,Tryz.f166,aM,cn,e1,e2,e3,hc,hc2,hcz,hl1,bc]
def lk:Ψ→Option Ψ
 | [p,q]=>match AU p,AU q with
  | some x,some y=>bif x.blt y then some [aO [],aO (aK x)] else bif y.blt 1000000000 then (bif y.beq 0 then none else some [aO (db (aK x).length (x / y)),aO (aK (x % y))]) else
    bif (aK x).length.ble 900000 then some [aO (db ((aK x).length+1 - (aK y).length) (x / y)),aO (db (aK y).length (x % y))] else none
  | _,_=>none
 | _=>none
theorem l8 {x y:Nat}(h : ¬ x<y):x.blt y=false:=by
 cases e:x.blt y with
 | false=>rfl
 | true=>rw[Nat.blt_eq] at e;exact absurd e h
theorem kF {y:Nat}(h:y≠0):y.beq 0=false:=by
 cases y with
 | zero=>exact absurd rfl h
 | succ y=>rfl
theorem xg:Ab.Spec base.P 166 lk:=Ab.Spec.bN (C:=CC L3) (cP aje) fun args rs h=>by
 unfold lk at h
 split at h
 ·split at h
  ·rename_i x y ex ey
   obtain⟨rfl,hx⟩:=x9 ex
   obtain⟨rfl,hy⟩:=x9 ey
   by_cases hb:x<y
   ·have hb':x.blt y=true:=by rw[Nat.blt_eq];exact hb
    rw[hb'] at h
    simp only[cond_true,OiE] at h
    subst h
    obtain⟨st,e1,e2⟩:=EB (runK (CC L3) 1) 1 x y hx hy hb
    exact⟨2,_,_,_,[.sc (.slice none 0 0),aO (aK x)],[],aV qg rfl e1 e2,rfl,Wk.nil false,Wk.refl rfl,trivial⟩
   ·rw[l8 hb] at h
    by_cases hc:y<1000000000
    ·have hc':y.blt 1000000000=true:=by rw[Nat.blt_eq];exact hc
     rw[hc'] at h
     by_cases hy0:y=0
     ·subst hy0
      simp at h
     ·rw[kF hy0] at h
      simp only[cond_true,cond_false,OiE] at h
      subst h
      obtain⟨st,e1,e2⟩:=EA (runK (CC L3) 1) 1 x y hx (by omega) hc (by omega)
      exact⟨2,_,_,_,_,_,aV qg rfl e1 e2,rfl,Wk.refl rfl,Wk.refl rfl,trivial⟩
    ·rw[l8 hc] at h
     cases hd:(aK x).length.ble 900000 with
     | false=>rw[hd] at h;simp at h
     | true =>
      rw[hd] at h
      simp only[cond_true,cond_false,OiE] at h
      subst h
      obtain⟨st,e1,e2⟩:=Ez (runK (CC L3) 1) 1 x y (by rw[Nat.ble_eq] at hd;exact hd) (by omega) (by omega)
      exact⟨2,_,_,_,_,_,aV qg rfl e1 e2,rfl,Wk.refl rfl,Wk.refl rfl,trivial⟩
  ·cases h
 ·cases h
theorem xi (x y:Nat)(hx:(aK x).length≤900000)(hy:(aK y).length≤900000)(hy0:y≠0) :
  ∃ q r,lk [aO (aK x),aO (aK y)]=some [aO q,aO r]∧Dok q∧val q=x / y∧q.length<1000000∧Dok r∧val r=x % y∧r.length<1000000:=by
 have hx':(aK x).length<1000000:=by omega
 have hy':(aK y).length<1000000:=by omega
 have hm:=Nat.mod_lt x (show 0<y by omega)
 have hml:(aK (x % y)).length<1000000:=Nat.lt_of_le_of_lt (cG (Nat.le_of_lt hm)) hy'
 by_cases hb:x<y
 ·have hb':x.blt y=true:=by rw[Nat.blt_eq];exact hb
  exact⟨[],aK x,by simp only[lk,l5 hx',l5 hy',hb',cond_true],Dok.nil,by rw[Nat.div_eq_of_lt hb];rfl,by simp,bS _,by rw[bV,Nat.mod_eq_of_lt hb],hx'⟩
 ·by_cases hc:y<1000000000
  ·have hc':y.blt 1000000000=true:=by rw[Nat.blt_eq];exact hc
   exact⟨_,_,by simp only[lk,l5 hx',l5 hy',l8 hb,hc',kF hy0,cond_true,cond_false],gD _ _,fo _ _ (Nat.lt_of_le_of_lt (Nat.div_le_self x y) (fD x)),by rw[dp];exact hx',bS _,bV _,hml⟩
  ·have hd:(aK x).length.ble 900000=true:=by rw[Nat.ble_eq];exact hx
   have h2:=rF (show 1000000000≤y by omega)
   have hle:=cG (show y≤x by omega)
   refine⟨db ((aK x).length+1 - (aK y).length) (x / y),db (aK y).length (x % y),by simp only[lk,l5 hx',l5 hy',l8 hb,l8 hc,hd,cond_true,cond_false],gD _ _,fo _ _ ?_,by rw[dp];omega,gD _ _,fo _ _ (Nat.lt_trans hm (fD y)),by rw[dp];exact hy'⟩
   have h3:=fD x
   have h4:1000000000 ^ ((aK y).length - 1)≤y:=by
    rcases Nat.lt_or_ge y (1000000000 ^ ((aK y).length - 1)) with h | h
    ·have:=di h;omega
    ·exact h
   refine Nat.div_lt_of_lt_mul ?_
   refine Nat.lt_of_lt_of_le h3 (Nat.le_trans ?_ (Nat.mul_le_mul_right _ h4))
   rw[← Nat.pow_add]
   exact Nat.pow_le_pow_right (by omega) (by omega)
def L4:Lst:=[(167,ju),(166,lk),(165,CV),(164,Bw),(97,ofF)]
theorem ajd:dt base.P L4:=⟨iV,xg,LX,GD,mw,trivial⟩
theorem aat:bt L4 167=fun a=>ju (aJ a):=rfl
theorem Uh:bt L4 166=fun a=>lk (aJ a):=rfl
theorem aas:bt L4 165=fun a=>CV (aJ a):=rfl
theorem Ug:bt L4 164=fun a=>Bw (aJ a):=rfl
theorem ahP:bt L4 97=fun a=>ofF (aJ a):=rfl
theorem I2 (run:aw)(dr:Bool)(hp:Θ)(r:Ω)(hd:Dok r)(hr:r.length<1000000) :
  bU (CC L4) run dr hp 167 [aO r]=some (aO (aK (val r)),hp,⟨[],[],false,false⟩) :=
 bu vd aat run dr hp _ [aO (aK (val r))] rfl (by simp only[aJ,fH]) (by simp only[ju,cX hd hr,eJ hd])
theorem FT (run:aw)(dr:Bool)(hp:Θ)(x y:Nat)(hx:(aK x).length≤900000)(hy:(aK y).length≤900000)(hy0:y≠0) :
  ∃ q r,bU (CC L4) run dr hp 166 [aO (aK x),aO (aK y)]=some (.tup [aO q,aO r],hp,⟨[],[],false,false⟩)∧Dok r∧val r=x % y∧r.length<1000000:=by
 obtain⟨q,r,h1,h2,h3,h4,h5,h6,h7⟩:=xi x y hx hy hy0
 exact⟨q,r,bu DC Uh run dr hp [aO (aK x),aO (aK y)] [aO q,aO r] (mR hp _ _) (kB _ _) h1,h5,h6,h7⟩
theorem yj (run:aw)(dr:Bool)(hp:Θ)(x:Nat)(hx:(aK x).length≤2) :
  bU (CC L4) run dr hp 165 [aO (aK x)]=some (Ab.bJ (Int.ofNat x),hp,⟨[],[],false,false⟩) :=
 bu YH aas run dr hp _ [Ab.bJ (Int.ofNat x)] rfl (by simp only[aJ,fH]) (by
  have:(aK x).length.ble 2=true:=by rw[Nat.ble_eq];exact hx
  simp only[CV,cX (bS x) (show (aK x).length<1000000 by omega),this,cond_true,bV])
theorem FR (run:aw)(dr:Bool)(hp:Θ)(x y:Nat) :
  bU (CC L4) run dr hp 164 [.sc (.int .i64 (x:Int)),.sc (.int .i64 (y:Int))]=some (.sc (.int .i64 ((Nat.gcd x y:Nat):Int)),hp,⟨[],[],false,false⟩) :=
 bu Rj Ug run dr hp _ [Ab.bJ (Int.ofNat (Nat.gcd x y))] rfl rfl rfl
theorem W2 (run:aw)(dr:Bool)(hp:Θ)(x:Nat)(hx:x<9223372036854775808) :
  bU (CC L4) run dr hp 97 [.sc (.int .i64 (x:Int))]=some (br (Int.ofNat x),hp,⟨[],[],false,false⟩) :=
 bu zu ahP run dr hp _ [br (Int.ofNat x)] rfl rfl (by
  have h1:decide (-9223372036854775808≤(x:Int))=true:=decide_eq_true (by omega)
  have h2:decide ((x:Int)<9223372036854775808)=true:=decide_eq_true (by omega)
  simp only[ofF,h1,h2,Bool.and_self,cond_true];rfl)
theorem Sm.le9 {z:Int}(h:Sm z):(aK z.natAbs).length≤900000:=Nat.le_of_lt (Nat.lt_trans h (by decide))
def Fj:Code:=Tryz.f150.body.getD .skip
def yL:Code:=((Tryz.f150.body).bind aA).getD .skip
abbrev zW2:Blk:=⟨.live,[.sc (.bool false),.sc (.slice none 0 0)]⟩
theorem abt (L:Lst)(run:aw)(k:Nat)(fr:Ψ)(hp:Θ)(wr:Ω)(h41:fr.length=41)(h6:nth fr 6=aO []) :
  ∃ fr',af (CC L) run k yL ⟨fr,hp,wr⟩=some (.exit 0,⟨fr',hp,wr⟩)∧fr'.length=41∧nth fr' 4=nth fr 4∧nth fr' 5=nth fr 5:=by
 simp[yL,Tryz.f150,cn,h41,h6]
set_option maxHeartbeats 1000000 in
theorem OQ (run:aw)(k:Nat)(fr:Ψ)(hp:Θ)(wr:Ω)(x y:Nat)(hx:(aK x).length≤900000)(hy:(aK y).length≤900000)(hy0:y≠0)(hns : ¬ ((aK x).length≤2∧(aK y).length≤2))
  (h41:fr.length=41) (h5:nth fr 5=aO (aK x)) (h6:nth fr 6=aO (aK y)) :
  ∃ fr',af (CC L4) run k yL ⟨fr,hp,wr⟩=some (.normal,⟨fr',hp,wr⟩)∧fr'.length=41∧nth fr' 4=nth fr 4∧nth fr' 5=aO (aK y)∧nth fr' 6=aO (aK (x % y)):=by
 obtain⟨q,rr,hc,hr1,hr2,hr3⟩:=FT run false hp x y hx hy hy0
 have hc2:=fun dr=>I2 run dr hp rr hr1 hr3
 rw[hr2] at hc2
 have hp0:=(cT (n:=y)).2 hy0
 have hne:aK y≠[]:=by intro e;rw[e] at hp0;simp at hp0
 generalize aK (x % y)=r at *
 generalize aK x=a at *
 generalize aK y=b at *
 by_cases h2:a.length≤2
 ·have h3 : ¬ (b.length≤2):=fun h=>hns ⟨h2,h⟩
  simp[yL,Tryz.f150,aM,cn,afx,h41,h5,h6,hp0,h2,h3,hc,hc2]
 ·simp[yL,Tryz.f150,aM,cn,afx,h41,h5,h6,hp0,h2,hc,hc2]
set_option maxHeartbeats 1000000 in
theorem abp (run:aw)(k:Nat)(fr:Ψ)(b0 b1:Blk)(wr:Ω)(x y:Nat)(hx:(aK x).length≤2)(hy:(aK y).length≤2)(hy0:y≠0)(h41:fr.length=41)(h4:nth fr 4 = .ptr 2 0)(h5:nth fr 5=aO (aK x))(h6:nth fr 6=aO (aK y)) :
  ∃ fr' wr',af (CC L4) run k yL ⟨fr,[b0,b1,zW2],wr⟩=some (.ret,⟨fr',[b0,b1,⟨.live,[.sc (.bool false),aO (aK (Nat.gcd x y))]⟩],wr'⟩)∧nth fr' 4 = .ptr 2 0:=by
 have hc1:=fun dr=>yj run dr [b0,b1,zW2] x hx
 have hc2:=fun dr=>yj run dr [b0,b1,zW2] y hy
 have hc3:=fun dr=>FR run dr [b0,b1,zW2] x y
 have hg:Nat.gcd x y<9223372036854775808:=by
  have h1:=fD y
  have h2:=Nat.pow_le_pow_right (n:=1000000000) (by omega) hy
  have h3:=Nat.gcd_le_right x (show 0<y by omega)
  have h4:1000000000 ^ 2<9223372036854775808:=by decide
  omega
 have hc4:=fun dr=>W2 run dr [b0,b1,zW2] (Nat.gcd x y) hg
 simp only[Ab.bJ,Int.ofNat_eq_natCast] at hc1 hc2
 rw[show br (Int.ofNat (Nat.gcd x y)) = .agg [.sc (.bool false),aO (aK (Nat.gcd x y))] from rfl] at hc4
 have hp0:=(cT (n:=y)).2 hy0
 have hne:aK y≠[]:=by intro e;rw[e] at hp0;simp at hp0
 generalize aK (Nat.gcd x y)=g at *
 generalize Nat.gcd x y=gg at *
 generalize aK x=a at *
 generalize aK y=b at *
 simp[yL,Tryz.f150,aM,cn,bm,bX,bH,bd,afx,h41,h4,h5,h6,hp0,hx,hy,hc1,hc2,hc3,hc4,aP,bZ,cm,sW]
theorem Fi (run:aw)(k:Nat)(b0 b1:Blk) :
  ∀ (n y x:Nat) (fr:Ψ) (wr:Ω),y<n→(aK x).length≤900000→(aK y).length≤900000→fr.length=41→nth fr 4 = .ptr 2 0→nth fr 5=aO (aK x)→nth fr 6=aO (aK y) →
  (∃ fr' wr',ch (af (CC L4) run k yL) n ⟨fr,[b0,b1,zW2],wr⟩=some (.exit 0,⟨fr',[b0,b1,zW2],wr'⟩)∧fr'.length=41∧nth fr' 4 = .ptr 2 0∧nth fr' 5=aO (aK (Nat.gcd x y))) ∨
  (∃ fr' wr',ch (af (CC L4) run k yL) n ⟨fr,[b0,b1,zW2],wr⟩=some (.ret,⟨fr',[b0,b1,⟨.live,[.sc (.bool false),aO (aK (Nat.gcd x y))]⟩],wr'⟩)∧nth fr' 4 = .ptr 2 0)
 | 0,y,x,fr,wr,hn,_,_,_,_,_,_=>by omega
 | n+1,y,x,fr,wr,hn,hx,hy,h41,h4,h5,h6=>by
  by_cases hy0:y=0
  ·subst hy0
   obtain⟨fr',g1,g2,g3,g4⟩:=abt L4 run k fr [b0,b1,zW2] wr h41 h6
   exact .inl ⟨fr',wr,bE g1,g2,by rw[g3,h4],by rw[g4,h5,Nat.gcd_zero_right]⟩
  ·by_cases hs:(aK x).length≤2∧(aK y).length≤2
   ·obtain⟨fr',wr',g1,g2⟩:=abp run k fr b0 b1 wr x y hs.1 hs.2 hy0 h41 h4 h5 h6
    exact .inr ⟨fr',wr',ez g1,g2⟩
   ·obtain⟨fr1,g1,g2,g3,g4,g5⟩:=OQ run k fr [b0,b1,zW2] wr x y hx hy hy0 hs h41 h5 h6
    have hm:=Nat.mod_lt x (show 0<y by omega)
    have:=Fi run k b0 b1 n (x % y) y fr1 wr (by omega) hy (Nat.le_trans (cG (Nat.le_of_lt hm)) hy) g2 (by rw[g3,h4]) g4 g5
    rw[ca g1]
    rw[Nat.gcd_comm y (x % y),← Nat.gcd_rec,Nat.gcd_comm y x] at this
    exact this
theorem AF:ag 2 Fj = .seq (.block 0 (.loop yL)) (ag 3 Fj):=rfl
theorem abr (L:Lst)(run:aw)(k:Nat)(na nb:Bool)(a b:Ω) :
  ∃ fr wr,ba (CC L) run k 2 Fj ⟨entry 41 [wh na a,wh nb b],[],[]⟩=some ⟨fr,[⟨.live,[.sc (.bool na),aO a]⟩,⟨.live,[.sc (.bool nb),aO b]⟩,zW2],wr⟩∧fr.length=41∧nth fr 4 = .ptr 2 0∧nth fr 5=aO a∧nth fr 6=aO b:=by
 obtain⟨e1,e2,e3⟩:=cC 39 (wh na a) (wh nb b)
 generalize entry 41 [wh na a,wh nb b]=fr0 at *
 have e4:∀ n l,wh n l = .agg [.sc (.bool n),aO l]:=fun _ _=>rfl
 rw[e4] at e2 e3
 simp[Fj,Tryz.f150,ba,e1,e2,e3,bP,partOf,bm,uW,sD,zW,aD,wf0,wf1,aL,aX,aP,bq,number,FP.free,cD,FP.apart]
theorem VG (L:Lst)(run:aw)(k:Nat)(fr:Ψ)(b0 b1:Blk)(wr:Ω)(a:Ω)(h41:fr.length=41)(h4:nth fr 4 = .ptr 2 0)(h5:nth fr 5=aO a) :
  ∃ st,af (CC L) run k (ag 3 Fj) ⟨fr,[b0,b1,zW2],wr⟩=some (.ret,st)∧bc TT st.fr st.hp Tryz.f150.results.toList=some [.agg [.sc (.bool false),aO a]]:=by
 simp[Fj,Tryz.f150,partOf,yc,bm,kz,bX,bH,bd,h41,h4,h5,fb,zW,uW,wf0,wf1,sB,sD,sW,aW,dq,ko,cm,bc,aX,aP,bZ,bq,bD]
theorem abq (fr:Ψ)(b0 b1:Blk)(a:Ω)(h4:nth fr 4 = .ptr 2 0):bc TT fr [b0,b1,⟨.live,[.sc (.bool false),aO a]⟩] Tryz.f150.results.toList=some [.agg [.sc (.bool false),aO a]]:=by
 simp[Tryz.f150,bc,h4,aX,aP,bq,partOf,aW,sW,bD]
def xN:Ψ→Option Ψ
 | [p,q]=>match fM p,fM q with
  | some x,some y=>some [br (Int.ofNat (Nat.gcd x.natAbs y.natAbs))]
  | _,_=>none
 | _=>none
theorem rp:Ab.Spec base.P 150 xN:=Ab.Spec.bN (C:=CC L4) (cP ajd) fun args rs h=>by
 unfold xN at h
 split at h
 ·split at h
  ·rename_i x y ex ey
   obtain⟨rfl,hx⟩:=eh ex
   obtain⟨rfl,hy⟩:=eh ey
   simp only[OiE] at h
   subst h
   obtain⟨f1,wr1,p1,p2,p3,p4,p5⟩:=abr L4 (runK (CC L4) (y.natAbs+1)) (y.natAbs+1) (bw x) (bw y) (aK x.natAbs) (aK y.natAbs)
   rcases Fi (runK (CC L4) (y.natAbs+1)) (y.natAbs+1) ⟨.live,[.sc (.bool (bw x)),aO (aK x.natAbs)]⟩ ⟨.live,[.sc (.bool (bw y)),aO (aK y.natAbs)]⟩ (y.natAbs+1) y.natAbs x.natAbs f1 wr1 (by omega) hx.le9 hy.le9 p2 p3 p4 p5 with ⟨f2,wr2,q1,q2,q3,q4⟩| ⟨f2,wr2,q1,q2⟩
   ·obtain⟨st,e1,e2⟩:=VG L4 (runK (CC L4) (y.natAbs+1)) (y.natAbs+1) f2 _ _ wr2 _ q2 q3 q4
    have hx:af (CC L4) (runK (CC L4) (y.natAbs+1)) (y.natAbs+1) Fj ⟨entry 41 [br x,br y],[],[]⟩=some (.ret,st):=by
     rw[br,br,aQ 2 p1,AF,ar (bK q1)]
     exact e1
    exact⟨y.natAbs+2,_,_,_,_,_,aV Gl rfl hx e2,jB _ (Int.ofNat (Nat.gcd x.natAbs y.natAbs)),Wk.refl rfl,trivial⟩
   ·have hx:af (CC L4) (runK (CC L4) (y.natAbs+1)) (y.natAbs+1) Fj ⟨entry 41 [br x,br y],[],[]⟩=some (.ret,⟨f2,[⟨.live,[.sc (.bool (bw x)),aO (aK x.natAbs)]⟩,⟨.live,[.sc (.bool (bw y)),aO (aK y.natAbs)]⟩,⟨.live,[.sc (.bool false),aO (aK (Nat.gcd x.natAbs y.natAbs))]⟩],wr2⟩):=by
     rw[br,br,aQ 2 p1,AF,cj (da q1)]
    exact⟨y.natAbs+2,_,_,_,_,_,aV Gl rfl hx (abq f2 _ _ _ q2),jB _ (Int.ofNat (Nat.gcd x.natAbs y.natAbs)),Wk.refl rfl,trivial⟩
  ·cases h
 ·cases h
end Go.Proofs.YtjdmodeenbdfpaaGreat
end
