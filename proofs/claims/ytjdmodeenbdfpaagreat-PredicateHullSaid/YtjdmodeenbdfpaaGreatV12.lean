/- Contracts of num's integers, part 12; each lemma states its conditions. -/
import Derived.Test.YtjdmodeenbdfpaaGreatV11
set_option linter.unusedSimpArgs false
set_option linter.unusedVariables false
noncomputable section
namespace Go.Proofs.YtjdmodeenbdfpaaGreat
open Go Go.Ab List
attribute [local simp] FzZ LF aA aC aF aG aH aL aM aU aZ aa ab ae af ag ah ai aj an and_assoc ao aq au av bc bf dX partOf uD
variable(L:Lst)(run:aw)(k:Nat)(fr:Ψ)(hp:Θ)(wr:Ω)
theorem xO (L:Lst)(run:aw)(kk:Nat)(b1:Blk)(u v q:Ω)(m n j g:Nat)(k:PV)(hu:Dok u)(hv:Dok v)(hvl:v.length=n)(hul:u.length<1000001)(hjn:j+n<u.length)(hg:g<1000000000) :
  ∀ (d i:Nat) (fr:Ψ) (wr:Ω) (c:Ω) (bo:Nat),i+d=n→MS u v c j g i bo→LF fr u.length m k (.imm n false (v.map dg)) n j→nth fr 12=iU g→nth fr 14=iI bo→nth fr 123=iI n→nth fr 124=iI i →
  ∃ (fr':Ψ) (wr' c':Ω) (bo':Nat),cb (ae (CC L) run kk oh) (d+1) ⟨fr,hpL b1 c q,wr⟩=some (.exit 4,⟨fr',hpL b1 c' q,wr'⟩)∧LF fr' u.length m k (.imm n false (v.map dg)) n j∧nth fr' 12=iU g∧nth fr' 14=iI bo'∧MS u v c' j g n bo'
 | 0,i,fr,wr,c,bo,hi,hM,h,h12,h14,h123,h124=>by
  have:i=n:=by omega
  subst this
  obtain⟨fr',q1,q2,q3,q4⟩:=Pe L run kk fr (hpL b1 c q) wr u.length m i j k _ _ _ h h12 h14 h123 h124
  exact⟨fr',wr,c,bo,bu q1,q2,q3,q4,hM⟩
 | d+1,i,fr,wr,c,bo,hi,hM,h,h12,h14,h123,h124=>by
  have hst:=hM.step hu hv (by omega)
  have hw:=acu (u:=at0 u (j+i)) (v:=at0 v i) (g:=g) (bo:=bo) (p:=g*at0 v i) rfl (cn hu _) hg hM.le
  have hX:=IQ (at0 u (j+i)) (at0 v i) g bo
  have hcl:c.length=u.length:=hM.len
  have hat:=hM.at
  obtain⟨fr1,wr1,q1,q2,q3,q4,q5,q6⟩:∃ fr' wr',ae (CC L) run kk oh ⟨fr,hpL b1 c q,wr⟩=some (.normal,⟨fr',hpL b1 (c.set (j+i) (msX (at0 u (j+i)) (at0 v i) g bo)) q,wr'⟩)∧LF fr' c.length m k (.imm n false (v.map dg)) n j∧nth fr' 12=iU g∧nth fr' 14=iI (msB (at0 u (j+i)) (at0 v i) g bo)∧nth fr' 123=iI n∧nth fr' 124=iI (i+1):=by
   rw[← hcl] at h
   rcases hw with ⟨w1,w2,w3⟩| ⟨w1,w2,w3,w4⟩| ⟨w1,w2,w3⟩
   ·exact acG L run kk fr b1 wr c v q m n j (j+i) i g bo _ _ _ _ _ k hM.ok hv hvl (by omega) (Nat.add_comm _ _) (by omega) (by omega) hg hM.le rfl rfl rfl h h12 h14 h123 h124 hX (by rw[hat];exact w1) (by rw[hat];exact w2) w3
   ·exact acF L run kk fr b1 wr c v q m n j (j+i) i g bo _ _ _ _ _ k hM.ok hv hvl (by omega) (Nat.add_comm _ _) (by omega) (by omega) hg hM.le rfl rfl rfl h h12 h14 h123 h124 hX (by rw[hat];exact w1) (by rw[hat];exact w2) (by rw[hat];exact w3) w4
   ·exact acE L run kk fr b1 wr c v q m n j (j+i) i g bo _ _ _ _ _ k hM.ok hv hvl (by omega) (Nat.add_comm _ _) (by omega) (by omega) hg hM.le rfl rfl rfl h h12 h14 h123 h124 hX (by rw[hat];exact w1) (by rw[hat];exact w2) w3
  rw[hcl] at q2
  obtain⟨fr',wr',c',bo',r1,r2⟩:=xO L run kk b1 u v q m n j g k hu hv hvl hul hjn hg d (i+1) fr1 wr1 _ _ (by omega) hst q2 q3 q4 q5 q6
  exact⟨fr',wr',c',bo',by rw[bT q1];exact r1,r2⟩
theorem Pk (L:Lst)(run:aw)(kk:Nat)(fr:Ψ)(hp:Θ)(wr:Ω)(nu m n j:Nat)(k v g x c:PV)(h:LF fr nu m k v n j)(h12:nth fr 12=g)(h17:nth fr 17=x)(h18:nth fr 18=c)(h188:nth fr 188=iI n)(h189:nth fr 189=iI n) :
  ∃ fr',ae (CC L) run kk AN ⟨fr,hp,wr⟩=some (.exit 6,⟨fr',hp,wr⟩)∧LF fr' nu m k v n j∧nth fr' 12=g∧nth fr' 17=x∧nth fr' 18=c:=by
 obtain⟨h0,h4,h6,h7,h8,h9,h10⟩:=h
 simp[AN,dj,Tryz.f182,h0,h4,h6,h7,h8,h9,h10,h12,h17,h18,h188,h189]
set_option maxHeartbeats 4000000 in
theorem Fa (L:Lst)(run:aw)(kk:Nat)(fr:Ψ)(b1:Blk)(wr:Ω)(c v q:Ω)(m n j p i cy s:Nat)(k g x:PV)(hc:Dok c)(hv:Dok v)(hvl:v.length=n)(hcl:c.length<1000001)
  (hp:p=i+j) (hi:i<n) (hpc:p<c.length) (hcy:cy≤1) (hs:s=at0 c p+at0 v i+cy)
  (h:LF fr c.length m k (.imm n false (v.map dg)) n j) (h12:nth fr 12=g) (h17:nth fr 17=x) (h18:nth fr 18 = .sc (.int .u32 (cy:Int))) (h188:nth fr 188=iI n) (h189:nth fr 189=iI i) :
  ∃ fr' wr',ae (CC L) run kk AN ⟨fr,hpL b1 c q,wr⟩=some (.normal,⟨fr',hpL b1 (c.set p (s % 1000000000)) q,wr'⟩)∧LF fr' c.length m k (.imm n false (v.map dg)) n j∧nth fr' 12=g∧nth fr' 17=x∧nth fr' 18 = .sc (.int .u32 ((s / 1000000000:Nat):Int))∧nth fr' 188=iI n∧nth fr' 189=iI (i+1):=by
 obtain⟨h0,h4,h6,h7,h8,h9,h10⟩:=h
 have hiv:i<v.length:=by omega
 have hd1:=cY c p hpc
 have hd2:=cY v i hiv
 have a1:=cn hc p
 have a2:=cn hv i
 obtain⟨X,hX⟩:∃ X,X=s % 1000000000:=⟨_,rfl⟩
 obtain⟨Q,hQ⟩:∃ Q,Q=s / 1000000000:=⟨_,rfl⟩
 have hov:=jw c p X hpc
 generalize at0 c p=a at *
 generalize at0 v i=b at *
 obtain⟨s1,hs1⟩:∃ s1,s1=a+b:=⟨_,rfl⟩
 rw[← hs1] at hs
 rw[← hX,← hQ]
 have hwp:=dm .i64 i j p hp (hiI (by omega))
 have hw0:=dm .u32 a b s1 hs1 (iX (by omega))
 have hw1:=dm .u32 s1 cy s hs (iX (by omega))
 have hw2:=jO .u32 s Q hQ (iX (by omega))
 have hw3:=lQ s X hX
 have hwi:=bD i (by omega)
 simp[AN,dj,Tryz.f182,bd,bn,bg,dq,gi,h0,h4,h6,h7,h8,h9,h10,h12,h17,h18,h188,h189,s32,a32,cg,hpc,hi,hd1,hd2,hov,hwp,hw0,hw1,hw2,hw3,hwi,gU X,number,FP.free]
theorem xQ (L:Lst)(run:aw)(kk:Nat)(b1:Blk)(u v q:Ω)(m n j:Nat)(k g x:PV)(hu:Dok u)(hv:Dok v)(hvl:v.length=n)(hul:u.length<1000001)(hjn:j+n<u.length) :
  ∀ (d i:Nat) (fr:Ψ) (wr:Ω) (c:Ω) (cy:Nat),i+d=n→AB u v c j i cy→LF fr u.length m k (.imm n false (v.map dg)) n j→nth fr 12=g→nth fr 17=x→nth fr 18 = .sc (.int .u32 (cy:Int))→nth fr 188=iI n→nth fr 189=iI i →
  ∃ (fr':Ψ) (wr' c':Ω) (cy':Nat),cb (ae (CC L) run kk AN) (d+1) ⟨fr,hpL b1 c q,wr⟩=some (.exit 6,⟨fr',hpL b1 c' q,wr'⟩)∧LF fr' u.length m k (.imm n false (v.map dg)) n j∧nth fr' 12=g∧nth fr' 17=x∧nth fr' 18 = .sc (.int .u32 (cy':Int))∧AB u v c' j n cy'
 | 0,i,fr,wr,c,cy,hi,hM,h,h12,h17,h18,h188,h189=>by
  have:i=n:=by omega
  subst this
  obtain⟨fr',q1,q2,q3,q4,q5⟩:=Pk L run kk fr (hpL b1 c q) wr u.length m i j k _ _ _ _ h h12 h17 h18 h188 h189
  exact⟨fr',wr,c,cy,bu q1,q2,q3,q4,q5,hM⟩
 | d+1,i,fr,wr,c,cy,hi,hM,h,h12,h17,h18,h188,h189=>by
  have hst:=hM.step hu hv (by omega)
  have hcl:c.length=u.length:=hM.len
  have hat:=hM.at
  rw[← hcl] at h
  obtain⟨fr1,wr1,q1,q2,q3,q4,q5,q6,q7⟩:=Fa L run kk fr b1 wr c v q m n j (j+i) i cy _ k g x hM.ok hv hvl (by omega) (Nat.add_comm _ _) (by omega) (by omega) hM.le (congrArg (· + at0 v i+cy) hat.symm) h h12 h17 h18 h188 h189
  rw[hcl] at q2
  obtain⟨fr',wr',c',cy',r1,r2⟩:=xQ L run kk b1 u v q m n j k g x hu hv hvl hul hjn d (i+1) fr1 wr1 _ _ (by omega) hst q2 q3 q4 q5 q6 q7
  exact⟨fr',wr',c',cy',by rw[bT q1];exact r1,r2⟩
def Ce:Code:=seq1 (seq1 (ai 4 dj))
def pg:Code:=seq1 (seq1 (ai 6 dj))
def nD:Code:=match aQ (seq1 (ai 6 dj)) with | .cond _ a _=>a | c=>c
def Cd:Code:=seq1 (seq1 (ai 2 nD))
theorem Pq:ai 2 dj = .seq (.block 2 (.loop k9)) (ai 3 dj):=rfl
theorem Pp:ai 4 dj = .seq (.seq Ce (.block 4 (.loop oh))) (ai 5 dj):=rfl
theorem Po:ai 6 dj = .seq (.seq pg (.cond (.tmp 185) nD .skip)) (ai 7 dj):=rfl
theorem V7:ai 2 nD = .seq (.seq Cd (.block 6 (.loop AN))) (ai 3 nD):=rfl
theorem V9:dX = .seq (seq1 dX) (.seq (.block 1 dj) (ai 2 dX)):=rfl
theorem V4 (L:Lst)(run:aw)(kk:Nat)(fr:Ψ)(hp:Θ)(wr:Ω)(nu m n j:Nat)(k v g:PV)(h:LF fr nu m k v n j)(h12:nth fr 12=g) :
  ∃ fr',bh (CC L) run kk 1 (ai 3 dj) ⟨fr,hp,wr⟩=some ⟨fr',hp,wr⟩∧LF fr' nu m k v n j∧nth fr' 12=g∧nth fr' 14=iI 0:=by
 obtain⟨h0,h4,h6,h7,h8,h9,h10⟩:=h
 simp[dj,Tryz.f182,bh,h0,h4,h6,h7,h8,h9,h10,h12]
theorem V3 (L:Lst)(run:aw)(kk:Nat)(fr:Ψ)(hp:Θ)(wr:Ω)(nu m n j:Nat)(k v g b:PV)(h:LF fr nu m k v n j)(h12:nth fr 12=g)(h14:nth fr 14=b) :
  ∃ fr',ae (CC L) run kk Ce ⟨fr,hp,wr⟩=some (.normal,⟨fr',hp,wr⟩)∧LF fr' nu m k v n j∧nth fr' 12=g∧nth fr' 14=b∧nth fr' 123=iI n∧nth fr' 124=iI 0:=by
 obtain⟨h0,h4,h6,h7,h8,h9,h10⟩:=h
 simp[Ce,dj,Tryz.f182,seq1,h0,h4,h6,h7,h8,h9,h10,h12,h14]
theorem V1 (L:Lst)(run:aw)(kk:Nat)(fr:Ψ)(b1:Blk)(wr:Ω)(c q:Ω)(m n j p bo:Nat)(k v g:PV)(hc:Dok c)(hcl:c.length<1000001)(hp:p=j+n)(hpc:p<c.length)(hbo:bo<1000000000)(h:LF fr c.length m k v n j)(h12:nth fr 12=g)(h14:nth fr 14=iI bo) :
  ∃ fr',bh (CC L) run kk 1 (ai 5 dj) ⟨fr,hpL b1 c q,wr⟩=some ⟨fr',hpL b1 c q,wr⟩∧LF fr' c.length m k v n j∧nth fr' 12=g∧nth fr' 17 = .sc (.int .i64 ((at0 c p:Int) - (bo:Int))):=by
 obtain⟨h0,h4,h6,h7,h8,h9,h10⟩:=h
 have hd1:=cY c p hpc
 have a1:=cn hc p
 generalize at0 c p=x at *
 have hwp:=dm .i64 j n p hp (hiI (by omega))
 have hw0:=cq .i64 x (hiI (by omega))
 have hwx:bA .i64 ((x:Int) - (bo:Int))=(x:Int) - (bo:Int):=fm _ (by omega) (by omega)
 simp[dj,Tryz.f182,bh,bd,bn,h0,h4,h6,h7,h8,h9,h10,h12,h14,RN,u32,s32,a32,dD,hpc,hd1,hwp,hw0,hwx]
theorem VZ (L:Lst)(run:aw)(kk:Nat)(fr:Ψ)(hp:Θ)(wr:Ω)(nu m n j:Nat)(k v g:PV)(z:Int)(h:LF fr nu m k v n j)(h12:nth fr 12=g)(h17:nth fr 17 = .sc (.int .i64 z)) :
  ∃ fr',ae (CC L) run kk pg ⟨fr,hp,wr⟩=some (.normal,⟨fr',hp,wr⟩)∧LF fr' nu m k v n j∧nth fr' 12=g∧nth fr' 17 = .sc (.int .i64 z)∧nth fr' 185 = .sc (.bool (decide (z<0))):=by
 obtain⟨h0,h4,h6,h7,h8,h9,h10⟩:=h
 simp[pg,dj,Tryz.f182,seq1,h0,h4,h6,h7,h8,h9,h10,h12,h17]
theorem VY (L:Lst)(run:aw)(kk:Nat)(fr:Ψ)(hp:Θ)(wr:Ω)(nu m n j g:Nat)(k v z:PV)(hg:g<999999999)(h:LF fr nu m k v n j)(h12:nth fr 12=iU (g+1))(h17:nth fr 17=z) :
  ∃ fr',bh (CC L) run kk 2 nD ⟨fr,hp,wr⟩=some ⟨fr',hp,wr⟩∧LF fr' nu m k v n j∧nth fr' 12=iU g∧nth fr' 17=z∧nth fr' 18 = .sc (.int .u32 (0:Nat)):=by
 obtain⟨h0,h4,h6,h7,h8,h9,h10⟩:=h
 obtain⟨g',hg'⟩:∃ g',g'=g+1:=⟨_,rfl⟩
 rw[← hg'] at h12
 have hw7:bA .u64 ((g':Int) - 1)=(g:Int):=by
  rw[show ((g':Int) - 1)=(g:Int) by omega];exact cq .u64 g (dA (by omega))
 simp[nD,dj,Tryz.f182,seq1,aQ,bh,h0,h4,h6,h7,h8,h9,h10,h12,h17,hw7]
theorem VX (L:Lst)(run:aw)(kk:Nat)(fr:Ψ)(hp:Θ)(wr:Ω)(nu m n j:Nat)(k v g z c:PV)(h:LF fr nu m k v n j)(h12:nth fr 12=g)(h17:nth fr 17=z)(h18:nth fr 18=c) :
  ∃ fr',ae (CC L) run kk Cd ⟨fr,hp,wr⟩=some (.normal,⟨fr',hp,wr⟩)∧LF fr' nu m k v n j∧nth fr' 12=g∧nth fr' 17=z∧nth fr' 18=c∧nth fr' 188=iI n∧nth fr' 189=iI 0:=by
 obtain⟨h0,h4,h6,h7,h8,h9,h10⟩:=h
 simp[Cd,nD,dj,Tryz.f182,seq1,aQ,h0,h4,h6,h7,h8,h9,h10,h12,h17,h18]
theorem VW (L:Lst)(run:aw)(kk:Nat)(fr:Ψ)(hp:Θ)(wr:Ω)(nu m n j c:Nat)(k v g:PV)(z:Int)(h:LF fr nu m k v n j)(h12:nth fr 12=g)(h17:nth fr 17 = .sc (.int .i64 z))(h18:nth fr 18 = .sc (.int .u32 (c:Int))) :
  ∃ fr',ae (CC L) run kk (ai 3 nD) ⟨fr,hp,wr⟩=some (.normal,⟨fr',hp,wr⟩)∧LF fr' nu m k v n j∧nth fr' 12=g:=by
 obtain⟨h0,h4,h6,h7,h8,h9,h10⟩:=h
 simp[nD,dj,Tryz.f182,seq1,aQ,h0,h4,h6,h7,h8,h9,h10,h12,h17,h18,RN,u32,dD]
theorem VU (L:Lst)(run:aw)(kk:Nat)(fr:Ψ)(b1:Blk)(wr:Ω)(c q:Ω)(n j p g:Nat)(k v:PV)(hcl:c.length<1000001)(hp:p=j+n)(hpc:p<c.length)(hjq:j<q.length)(hg:g<1000000000)(h:LF fr c.length q.length k v n j)(h12:nth fr 12=iU g) :
  ∃ fr' wr',ae (CC L) run kk (ai 7 dj) ⟨fr,hpL b1 c q,wr⟩=some (.normal,⟨fr',hpL b1 (c.set p 0) (q.set j g),wr'⟩)∧LF fr' c.length q.length k v n j:=by
 obtain⟨h0,h4,h6,h7,h8,h9,h10⟩:=h
 have hwp:=dm .i64 j n p hp (hiI (by omega))
 have hw0:bA .u32 (g:Int)=(g:Int):=cq .u32 g (iX (by omega))
 have hov:=jw c p 0 hpc
 have hov2:=jw q j g hjq
 have hz:PV.sc (.int .u32 0)=dg 0:=rfl
 simp[dj,Tryz.f182,bd,bn,bg,dq,gi,h0,h4,h6,h7,h8,h9,h10,h12,u32,u64,s32,dD,cg,hpc,hjq,hwp,hw0,hov,hov2,gU g,hz]
def LH (fr:Ψ)(nu m:Nat)(k v:PV)(n J:Nat):Prop :=
 fr.length=239∧nth fr 4 = .own 2 1 0 m true∧nth fr 6=k∧nth fr 7 = .own 0 1 0 nu false∧nth fr 8=v∧nth fr 9=iI n∧nth fr 10 = .sc (.int .i64 ((J:Int) - 1))
theorem acC (L:Lst)(run:aw)(kk:Nat)(fr:Ψ)(hp:Θ)(wr:Ω)(nu m n j:Nat)(k v:PV)(hj:j<1000001)(h:LF fr nu m k v n j) :
  ∃ fr',ae (CC L) run kk (ai 2 dX) ⟨fr,hp,wr⟩=some (.normal,⟨fr',hp,wr⟩)∧LH fr' nu m k v n j:=by
 obtain⟨h0,h4,h6,h7,h8,h9,h10⟩:=h
 have hw:=cM j (by omega)
 simp[LH,Tryz.f182,h0,h4,h6,h7,h8,h9,h10,hw]
theorem I0 (L:Lst)(run:aw)(kk:Nat)(fr:Ψ)(hp:Θ)(wr:Ω)(nu m n:Nat)(k v:PV)(h:LH fr nu m k v n 0) :
  ∃ fr',ae (CC L) run kk dX ⟨fr,hp,wr⟩=some (.exit 0,⟨fr',hp,wr⟩)∧LH fr' nu m k v n 0:=by
 obtain⟨h0,h4,h6,h7,h8,h9,h10⟩:=h
 simp only[Int.natCast_zero,Int.zero_sub] at h10
 simp[LH,Tryz.f182,h0,h4,h6,h7,h8,h9,h10]
theorem IZ (L:Lst)(run:aw)(kk:Nat)(fr:Ψ)(hp:Θ)(wr:Ω)(nu m n j:Nat)(k v:PV)(h:LH fr nu m k v n (j+1)) :
  ∃ fr',ae (CC L) run kk (seq1 dX) ⟨fr,hp,wr⟩=some (.normal,⟨fr',hp,wr⟩)∧LF fr' nu m k v n j:=by
 obtain⟨h0,h4,h6,h7,h8,h9,h10⟩:=h
 rw[show (((j+1:Nat):Int) - 1)=(j:Int) by omega] at h10
 simp[Tryz.f182,seq1,h0,h4,h6,h7,h8,h9,h10]
theorem uM {C:Cfg}{run:aw}{k:Nat}{c:Operand}{a b:Code}{st:St}(h:aj st.fr c = .sc (.bool true)):ae C run k (.cond c a b) st=ae C run k a st:=by
 simp only[ae,h]
theorem uN {C:Cfg}{run:aw}{k:Nat}{c:Operand}{a b:Code}{st:St}(h:aj st.fr c = .sc (.bool false)):ae C run k (.cond c a b) st=ae C run k b st:=by
 simp only[ae,h]
theorem A5 {C:Cfg}{run:aw}{k:Nat}{st:St} : ae C run k .skip st=some (.normal,st):=by simp only[ae]
theorem IY (L:Lst)(run:aw)(kk:Nat)(fr:Ψ)(b1:Blk)(wr:Ω)(A nu m n mm j:Nat)(k:PV)(u v q:Ω)(hv:Dok v)(hvl:v.length=n)(hmm:n=mm+2)(hul:u.length<1000001)(hnu:u.length=nu)(hkk:n+1≤kk)(hkk3:3≤kk)
  (h5:500000000≤at0 v (mm+1)) (hL:LI A (val v) n nu u q (j+1)) (hj:j+n<nu) (hq:q.length=m) (h:LH fr nu m k (.imm n false (v.map dg)) n (j+1)) :
  ∃ (fr':Ψ) (wr' u' q':Ω),ae (CC L) run kk dX ⟨fr,hpL b1 u q,wr⟩=some (.normal,⟨fr',hpL b1 u' q',wr'⟩)∧LI A (val v) n nu u' q' j∧q'.length=m∧LH fr' nu m k (.imm n false (v.map dg)) n j:=by
 have hu:=hL.uok
 subst hnu
 have hVlt:val v<1000000000 ^ n:=by have:=eW hv;rwa [hvl] at this
 obtain⟨s1,s2,s3⟩:=hL.seg hVlt
 have hn3:n+1=mm+3:=by omega
 rw[hn3] at s3
 have hV0:0<val v:=by
  rw[qG v mm (by omega)]
  have:0<1000000000 ^ mm:=Nat.pow_pos (by omega)
  have:0<(at0 v (mm+1)*1000000000+at0 v mm)*1000000000 ^ mm:=Nat.mul_pos (by omega) this
  omega
 have htop:=Py hv (by omega) s3
 obtain⟨f1,p1,p2⟩:=IZ L run kk fr (hpL b1 u q) wr u.length m n j k _ h
 obtain⟨f2,q1,q2,q3,q4⟩:=acB L run kk f1 b1 wr u v q m n j (j+mm+2) (j+mm+1) (mm+1) _ _ k hu hv hvl hul (by omega) (by omega) (by omega) (by omega) rfl rfl (by omega) p2
 have hg9:=GI.le (v2:=0) (u2:=0) h5 htop
 have hu2:=cn hu (j+mm)
 obtain⟨f3,g,r1,r2,r3,r4⟩:=xP L run kk b1 wr u v q m n j (j+mm+2) (j+mm) (mm+1) mm _ _ _ _ k hu hv hvl hul (by omega) (by omega) (by omega) (by omega) (by omega) rfl rfl rfl htop h5 3 f2 _ _
  (Nat.lt_trans (Nat.mod_lt _ (by omega)) (cn hv (mm+1))) (by omega) hg9 (GI.init (by omega) hu2) q2 q3 q4
 have hgq:=Pz hu hv (by omega) (by omega) s3 r4
 have hgB:=r4.1
 obtain⟨f4,t1,t2,t3,t4⟩:=V4 L run kk f3 (hpL b1 u q) wr u.length m n j k _ _ r2 r3
 obtain⟨f5,w1,w2,w3,w4,w5,w6⟩:=V3 L run kk f4 (hpL b1 u q) wr u.length m n j k _ _ _ t2 t3 t4
 obtain⟨f6,wr6,c6,bo,x1,x2,x3,x4,x5⟩:=xO L run kk b1 u v q m n j g k hu hv hvl hul hj hgB n 0 f5 wr u 0 (by omega) (MS.init hu j g) w2 w3 w4 w5 w6
 have hc6:c6.length=u.length:=x5.len
 rw[← hc6] at x2
 have hbo:=x5.le
 obtain⟨f7,y1,y2,y3,y4⟩:=V1 L run kk f6 b1 wr6 c6 q m n j (j+n) bo k _ _ x5.ok (by omega) rfl (by omega) (by omega) x2 x3 x4
 obtain⟨f8,z1,z2,z3,z4,z5⟩:=VZ L run kk f7 (hpL b1 c6 q) wr6 c6.length m n j k _ _ _ y2 y3 y4
 have hat:at0 c6 (j+n)=at0 u (j+n):=x5.at
 have hsegu:val ((u.drop j).take (n+1))=at0 u (j+n)*1000000000 ^ n+val ((u.drop j).take n):=by rw[gu];omega
 have hdm:=Nat.div_add_mod (val ((u.drop j).take (n+1))) (val v)
 have hmod:=Nat.mod_lt (val ((u.drop j).take (n+1))) hV0
 have hms:=x5.eq
 rw[cD v n (by omega)] at hms
 have hR:=BK x5.ok j n
 have hdB:val ((u.drop j).take (n+1)) / val v<1000000000:=by
  rw[hn3];exact Nat.div_lt_of_lt_mul s3
 rw[← hn3] at hgq
 have fin:∀ (f:Ψ) (wrx c:Ω),LF f c.length m k (.imm n false (v.map dg)) n j→nth f 12=iU (val ((u.drop j).take (n+1)) / val v)→c.length=u.length→Dok c→c.take j=u.take j→c.drop (j+n+1)=u.drop (j+n+1) →
   val ((c.drop j).take n)=val ((u.drop j).take (n+1)) % val v →
   ∃ (fr':Ψ) (wr' u' q':Ω),(match ae (CC L) run kk (ai 7 dj) ⟨f,hpL b1 c q,wrx⟩ with | some (.normal,st')=>ae (CC L) run kk (ai 2 dX) st' | r=>r)=some (.normal,⟨fr',hpL b1 u' q',wr'⟩)∧LI A (val v) n u.length u' q' j∧q'.length=m∧LH fr' u.length m k (.imm n false (v.map dg)) n j:=by
  intro f wrx c hf h12 hcl hok hlow hhigh hseg
  have hqj:j<q.length:=by have:=hL.ql;omega
  rw[← hq] at hf
  obtain⟨f9,wr9,a1,a2⟩:=VU L run kk f b1 wrx c q n j (j+n) _ k _ (by omega) rfl (by omega) hqj hdB hf h12
  obtain⟨f10,b1',b2⟩:=acC L run kk f9 (hpL b1 (c.set (j+n) 0) (q.set j (val ((u.drop j).take (n+1)) / val v))) wr9 c.length q.length n j k _ (by omega) a2
  refine⟨f10,wr9,c.set (j+n) 0,q.set j (val ((u.drop j).take (n+1)) / val v),?_,?_,by rw[length_set,hq],?_⟩
  ·rw[a1];exact b1'
  ·refine hL.next hVlt hV0 hj (by rw[length_set];exact hcl) (hok.set _ (by omega)) ?_ ?_ ?_ ?_ hdB
   ·rw[take_set_of_le (by omega),hlow]
   ·rw[drop_set_of_lt (by omega),hhigh]
   ·unfold at0;rw[getElem?_set_self (by omega)];rfl
   ·rw[← hseg]
    congr 1
    rw[drop_set,if_neg (by omega),take_set_of_le (by omega)]
  ·rw[← hcl,← hq];exact b2
 have hhigh6:c6.drop (j+n+1)=u.drop (j+n+1):=by
  rw[← drop_drop,x5.high,drop_drop]
 have hpre:∀ (f:Ψ) (wrx c:Ω),ae (CC L) run kk (.seq pg (.cond (.tmp 185) nD .skip)) ⟨f7,hpL b1 c6 q,wr6⟩=some (.normal,⟨f,hpL b1 c q,wrx⟩) →
   ae (CC L) run kk dX ⟨fr,hpL b1 u q,wr⟩=match ae (CC L) run kk (ai 7 dj) ⟨f,hpL b1 c q,wrx⟩ with | some (.normal,st')=>ae (CC L) run kk (ai 2 dX) st' | some (.exit i,st')=>(if i=1 then ae (CC L) run kk (ai 2 dX) st' else some (.exit i,st')) | r=>r:=by
  intro f wrx c hx
  have hB:ae (CC L) run kk dj ⟨f1,hpL b1 u q,wr⟩=ae (CC L) run kk (ai 7 dj) ⟨f,hpL b1 c q,wrx⟩:=by
   rw[aY 2 q1,Pq,ar (bE (bK r1 hkk3)),aY 1 t1,show ai 1 (ai 3 dj)=ai 4 dj from rfl,Pp,
    ar ((ar w1).trans (bE (bK x1 hkk))),aY 1 y1,show ai 1 (ai 5 dj)=ai 6 dj from rfl,Po,ar hx]
  rw[V9,ar p1]
  simp only[ae,hB]
  cases ae (CC L) run kk (ai 7 dj) ⟨f,hpL b1 c q,wrx⟩ with
  | none=>rfl
  | some r =>
   obtain⟨e,st⟩:=r
   cases e with
   | exit i =>
    by_cases hi:i=1
    ·subst hi;rfl
    ·simp[hi]
   | _=>rfl
 by_cases hneg:at0 u (j+n)<bo
 ·
  rw[hat] at z5 z4
  have hz5:decide (((at0 u (j+n):Nat):Int) - (bo:Int)<0)=true:=decide_eq_true (by omega)
  rw[hz5] at z5
  have hgd:g=val ((u.drop j).take (n+1)) / val v+1:=by
   rcases hgq with h' | h'
   ·exfalso
    have:=EZ (un:=at0 u (j+n)) hR (Nat.lt_trans hmod hVlt) hms (by rw[h',Nat.mul_comm _ (val v),hdm];exact hsegu.symm)
    omega
   ·exact h'
  obtain⟨e1,e2⟩:=LM (un:=at0 u (j+n)) (q:=val ((u.drop j).take (n+1)) / val v) hR hmod hVlt (by rw[← hgd];exact hms) (by rw[Nat.mul_comm _ (val v),hdm];exact hsegu.symm)
  rw[hgd] at z3
  rw[hgd] at hgB
  obtain⟨f9,a1,a2,a3,a4,a5⟩:=VY L run kk f8 (hpL b1 c6 q) wr6 c6.length m n j _ k _ _ (by omega) z2 z3 z4
  obtain⟨f10,b1',b2,b3,b4,b5,b6,b7⟩:=VX L run kk f9 (hpL b1 c6 q) wr6 c6.length m n j k _ _ _ _ a2 a3 a4 a5
  obtain⟨f11,wr11,c11,cy,d1,d2,d3,d4,d5,d6⟩:=xQ L run kk b1 c6 v q m n j k _ _ x5.ok hv hvl (by omega) (by omega) n 0 f10 wr6 c6 0 (by omega) (AB.init x5.ok j) b2 b3 b4 b5 b6 b7
  obtain⟨f12,g1,g2,g3⟩:=VW L run kk f11 (hpL b1 c11 q) wr11 c6.length m n j cy k _ _ _ d2 d3 d4 d5
  have hc11:c11.length=c6.length:=d6.len
  have hx:ae (CC L) run kk (.seq pg (.cond (.tmp 185) nD .skip)) ⟨f7,hpL b1 c6 q,wr6⟩=some (.normal,⟨f12,hpL b1 c11 q,wr11⟩):=by
   rw[ar z1,uM (by simpa [aj] using z5),aY 2 a1,V7,ar ((ar b1').trans (bE (bK d1 hkk)))]
   exact g1
  have hab:=d6.eq
  rw[cD v n (by omega)] at hab
  obtain⟨fr',wr',u',q',k1,k2⟩:=fin f12 wr11 c11 (by rw[hc11];exact g2) g3 (by omega) d6.ok (by rw[d6.low,x5.low]) (by rw[← hhigh6,← drop_drop,d6.high,drop_drop]) (ah1 (BK d6.ok j n) hmod hVlt e2 hab d6.le)
  refine⟨fr',wr',u',q',?_,k2⟩
  rw[hpre f12 wr11 c11 hx]
  revert k1
  cases ae (CC L) run kk (ai 7 dj) ⟨f12,hpL b1 c11 q,wr11⟩ with
  | none=>intro k1;exact k1
  | some r =>
   obtain⟨e,st⟩:=r
   cases e <;> simp
 ·rw[hat] at z5 z4
  have hz5:decide (((at0 u (j+n):Nat):Int) - (bo:Int)<0)=false:=decide_eq_false (by omega)
  rw[hz5] at z5
  have hgd:g=val ((u.drop j).take (n+1)) / val v∧val ((c6.drop j).take n)=val ((u.drop j).take (n+1)) % val v:=by
   rcases hgq with h' | h'
   ·have:=EZ (un:=at0 u (j+n)) hR (Nat.lt_trans hmod hVlt) hms (by rw[h',Nat.mul_comm _ (val v),hdm];exact hsegu.symm)
    exact⟨h',this.2⟩
   ·exfalso
    obtain⟨e1,e2⟩:=LM (un:=at0 u (j+n)) (q:=val ((u.drop j).take (n+1)) / val v) hR hmod hVlt (by rw[← h'];exact hms) (by rw[Nat.mul_comm _ (val v),hdm];exact hsegu.symm)
    omega
  rw[hgd.1] at z3
  have hx:ae (CC L) run kk (.seq pg (.cond (.tmp 185) nD .skip)) ⟨f7,hpL b1 c6 q,wr6⟩=some (.normal,⟨f8,hpL b1 c6 q,wr6⟩):=by
   rw[ar z1,uN (by simpa [aj] using z5),A5]
  obtain⟨fr',wr',u',q',k1,k2⟩:=fin f8 wr6 c6 z2 z3 hc6 x5.ok x5.low hhigh6 hgd.2
  refine⟨fr',wr',u',q',?_,k2⟩
  rw[hpre f8 wr6 c6 hx]
  revert k1
  cases ae (CC L) run kk (ai 7 dj) ⟨f8,hpL b1 c6 q,wr6⟩ with
  | none=>intro k1;exact k1
  | some r =>
   obtain⟨e,st⟩:=r
   cases e <;> simp
theorem AL (L:Lst)(run:aw)(kk:Nat)(b1:Blk)(A nu m n mm:Nat)(k:PV)(v:Ω)(hv:Dok v)(hvl:v.length=n)(hmm:n=mm+2)(hul:nu<1000001)(hkk:n+1≤kk)(hkk3:3≤kk)(h5:500000000≤at0 v (mm+1)) :
  ∀ (J:Nat) (fr:Ψ) (wr u q:Ω),LI A (val v) n nu u q J→J+n≤nu→q.length=m→LH fr nu m k (.imm n false (v.map dg)) n J →
  ∃ (fr':Ψ) (wr' u' q':Ω),cb (ae (CC L) run kk dX) (J+1) ⟨fr,hpL b1 u q,wr⟩=some (.exit 0,⟨fr',hpL b1 u' q',wr'⟩)∧LI A (val v) n nu u' q' 0∧q'.length=m∧LH fr' nu m k (.imm n false (v.map dg)) n 0
 | 0,fr,wr,u,q,hL,hJ,hq,h=>by
  obtain⟨fr',g1,g2⟩:=I0 L run kk fr (hpL b1 u q) wr nu m n k _ h
  exact⟨fr',wr,u,q,bu g1,hL,hq,g2⟩
 | j+1,fr,wr,u,q,hL,hJ,hq,h=>by
  obtain⟨fr1,wr1,u1,q1,g1,g2,g3,g4⟩:=IY L run kk fr b1 wr A nu m n mm j k u v q hv hvl hmm (by rw[hL.ul];exact hul) hL.ul hkk hkk3 h5 hL (by omega) hq h
  obtain⟨fr',wr',u',q',r1,r2⟩:=AL L run kk b1 A nu m n mm k v hv hvl hmm hul hkk hkk3 h5 j fr1 wr1 u1 q1 g2 (by omega) g3 g4
  exact⟨fr',wr',u',q',by rw[bT g1];exact r1,r2⟩
theorem wu {hp:Θ}{id:Nat}{l:Ω}(h:aL hp id=some ⟨.live,l.map dg⟩)(n:Nat)(x:Bool)(hn:n≤l.length)(d:Nat) :
  Ab.snap hp (d+2) (.own id 1 0 n x)=some (.imm n x ((l.take n).map dg),[id]):=by
 rw[Ab.snap]
 simp only[h]
 rw[if_neg (by simp)]
 have:bF (bp (l.map dg) 0) (n*1)=some ((l.take n).map dg):=by
  rw[cF,drop_zero,Nat.mul_one,dh (by simpa using hn),map_take]
 rw[this]
 simp only[kl hp d]
theorem Bi (n:Nat)(x:Bool)(l:Ω)(h:l.length=n):canon (.imm n x (l.map dg))=aP l:=by
 rw[canon,jo,aP,h]
def LK:Lst:=[(167,jy),(181,nO)]
theorem akz:dE base.P LK:=⟨jj,wC,trivial⟩
theorem ab1:bx LK 167=fun a=>jy (aK a):=rfl
theorem Vm:bx LK 181=fun a=>nO (aK a):=rfl
theorem OY:bx LK 190=fun _=>none:=rfl
theorem adx {hp:Θ}{id n:Nat}{x:Bool}{l:Ω}(h:aL hp id=some ⟨.live,l.map dg⟩) :
  eN hp [] [] [] [.own id 1 0 n x]=some ([.own 0 1 0 n x],[⟨.live,l.map dg⟩]):=by
 have:=kl hp 11 l
 simp only[eN,h,bq,this]
 simp
theorem QC {C:Cfg}{run:aw}{dr:Bool}{hp hp1:Θ}{g:FuncId}{args args':Ψ}{wr:Ω}{n:Nat}{l:Ω}{rs:Ψ}
  (h1:C.shared g=false) (h2:bw (Ab.snap hp bq) args=some (args',[])) (h3:C.orc g args'=none) (h4:run g args' []=some (rs,hp1,wr))
  (h5:eN hp1 [] [] [] rs=some ([.own 0 1 0 n false],[⟨.live,l.map dg⟩])) :
  bP C run dr hp g args=some (.own hp.length 1 0 n false,hp++[⟨.live,l.map dg⟩],⟨[],[hp.length],true,false⟩):=by
 unfold bP
 simp[h1,h2,h3,h4,h5,eh,jm,sJ,roB,upto]
theorem si (K:Nat)(dr:Bool)(hp:Θ)(a:Ω)(b:Nat)(ha:Dok a)(hb:b<1000000000)(hl:a.length<1000000)(hk:a.length<K) :
  bP (CC LK) (runK (CC LK) (K+1)) dr hp 190 [aP a,dg b]=some (.own hp.length 1 0 (a.length+1) false,hp++[⟨.live,(cZ (a.length+1) (val a*b)).map dg⟩],⟨[],[hp.length],true,false⟩):=by
 obtain⟨hp1,wr,id,h1,h2⟩:=Hp LK (fun _=>rfl) a b K ha hb hl hk
 have e1:(CC LK).shared 190=false:=Nr
 have e2:bw (Ab.snap hp bq) [aP a,dg b]=some ([aP a,dg b],[]):=rfl
 have e3:(CC LK).orc 190 [aP a,dg b]=none:=by
  show bx LK 190 [aP a,dg b]=none
  rw[OY]
 exact QC e1 e2 e3 h1 (adx h2)
theorem JK (run:aw)(dr:Bool)(hp:Θ)(id n:Nat)(l:Ω)(hl:Dok l)(hn:l.length=n)(hn2:n<1000000)(h:aL hp id=some ⟨.live,l.map dg⟩) :
  bP (CC LK) run dr hp 167 [.own id 1 0 n false]=some (aP (aJ (val l)),roB hp [id],⟨[id],[id],false,false⟩):=by
 subst hn
 have h1:=wu h l.length false (Nat.le_refl _) 10
 rw[take_length] at h1
 have h4:bw (Ab.snap hp bq) [.own id 1 0 l.length false]=some ([.imm l.length false (l.map dg)],[id]):=by
  show bw (Ab.snap hp 12) _=_
  simp only[bw,h1]
  rfl
 have h3:(CC LK).orc 167 [.imm l.length false (l.map dg)]=some [aP (aJ (val l))]:=by
  show bx LK 167 [.imm l.length false (l.map dg)]=_
  rw[ab1]
  simp only[aK,Bi l.length false l rfl,jy,cW hl hn2,eB hl]
 exact eJ vu h4 h3 rfl
theorem Ga (run:aw)(dr:Bool)(hp:Θ)(id n b:Nat)(l:Ω)(hl:Dok l)(hn:n≤l.length)(hn2:n<1000000)(hb:0<b)(hb2:b<1000000000)(h:aL hp id=some ⟨.live,l.map dg⟩) :
  bP (CC LK) run dr hp 181 [.own id 1 0 n false,dg b]=some (.tup [aP (cZ n (val (l.take n) / b)),dg (val (l.take n) % b)],roB hp [id],⟨[id],[id],false,false⟩):=by
 obtain⟨b,rfl⟩:∃ c,b=c+1:=⟨b - 1,by omega⟩
 have h1:=wu h n false hn 10
 have ht:(l.take n).length=n:=by rw[length_take];omega
 have h4:bw (Ab.snap hp bq) [.own id 1 0 n false,dg (b+1)]=some ([.imm n false ((l.take n).map dg),dg (b+1)],[id]):=by
  show bw (Ab.snap hp 12) _=_
  simp only[bw,h1]
  rfl
 have h3:(CC LK).orc 181 [.imm n false ((l.take n).map dg),dg (b+1)]=some [aP (cZ n (val (l.take n) / (b+1))),dg (val (l.take n) % (b+1))]:=by
  show bx LK 181 [.imm n false ((l.take n).map dg),dg (b+1)]=_
  rw[Vm]
  have e:aK [.imm n false ((l.take n).map dg),dg (b+1)]=[aP (l.take n),dg (b+1)]:=by
   simp only[aK,Bi n false (l.take n) ht];rfl
  simp only[e,nO,cW (hl.take n) (by omega),XL hb2,ht]
 exact eJ Dr h4 h3 rfl
theorem Pc (L:Lst)(run:aw)(kk:Nat)(p q:PV) :
  ∃ fr wr,bh (CC L) run kk 1 gY ⟨entry 239 [p,q],[],[]⟩=some ⟨fr,[],wr⟩∧fr.length=239∧nth fr 0=p∧nth fr 1=q:=by
 obtain⟨e1,e2,e3⟩:=cl 237 p q
 generalize entry 239 [p,q]=fr0 at *
 simp[gY,Tryz.f182,bh,e1,e2,e3]
theorem Pb (L:Lst)(run:aw)(kk:Nat)(fr0:Ψ)(wr0:Ω)(a b:Ω)(n1 t s k:Nat)(hb:Dok b)(hl:b.length<1000000)(hn:b.length=n1+1)(ht:t=at0 b n1)(hs:s=t+1)(hk:k=1000000000 / s)(e1:fr0.length=239)(e2:nth fr0 0=aP a)(e3:nth fr0 1=aP b) :
  ∃ fr wr,bh (CC L) run kk 1 (ai 1 gY) ⟨fr0,[],wr0⟩=some ⟨fr,[],wr⟩∧fr.length=239∧nth fr 0=aP a∧nth fr 1=aP b∧nth fr 6=dg k:=by
 have hk2:k≤1000000000:=by rw[hk];exact Nat.div_le_self _ _
 have hq:Int.tdiv 1000000000 (s:Int)=(k:Int):=by rw[hk];exact (Int.ofNat_tdiv 1000000000 s).symm
 clear hk
 have hnb:n1<b.length:=by omega
 have hd:=cY b n1 hnb
 have a1:=cn hb n1
 rw[← ht] at hd a1
 have hwn:bA .i64 ((b.length:Int) - 1)=(n1:Int):=by rw[cM b.length (by omega)];omega
 have hw0:=cq .u64 t (dA (by omega))
 have hw1:bA .u64 ((t:Int)+1)=(s:Int):=by
  rw[show ((t:Int)+1)=(s:Int) by omega];exact cq .u64 s (dA (by omega))
 have hw2:=cq .u64 k (dA (Nat.le_trans hk2 (by decide)))
 have hw3:bA .u32 (k:Int)=(k:Int):=cq .u32 k (iX (Nat.le_trans hk2 (by decide)))
 have hs0 : ¬ (s=0):=by rw[hs];exact Nat.succ_ne_zero t
 have e4:aP b = .imm b.length false (b.map dg):=rfl
 rw[e4] at e3 ⊢
 clear hs ht
 simp[gY,Tryz.f182,bh,e1,e2,e3,bL,bd,bn,cP,u32,u64,s32,a32,dD,hnb,hd,hwn,hw0,hw1,hq,hw2,hw3,hs0,gU k]
theorem Pa (run:aw)(kk:Nat)(fr0:Ψ)(wr0:Ω)(a b v U V:Ω)(k:Nat)(fp1 fp2 fp3:FP)(n1 n2:Nat)(h239:fr0.length=239)(h0:nth fr0 0=aP a)(h1:nth fr0 1=aP b)(h6:nth fr0 6=dg k)
  (hc1:bP (CC LK) run false [] 190 [aP a,dg k]=some (.own 0 1 0 n1 false,[⟨.live,U.map dg⟩],fp1))
  (hc2:bP (CC LK) run false [⟨.live,U.map dg⟩] 190 [aP b,dg k]=some (.own 1 1 0 n2 false,[⟨.live,U.map dg⟩,⟨.live,V.map dg⟩],fp2))
  (hc3:bP (CC LK) run false [⟨.live,U.map dg⟩,⟨.live,V.map dg⟩] 167 [.own 1 1 0 n2 false]=some (aP v,[⟨.live,U.map dg⟩,⟨.ro,V.map dg⟩],fp3)) :
  ∃ fr wr,bh (CC LK) run kk 1 (ai 2 gY) ⟨fr0,[],wr0⟩=some ⟨fr,[⟨.live,U.map dg⟩,⟨.ro,V.map dg⟩],wr⟩∧fr.length=239∧nth fr 6=dg k∧nth fr 7 = .own 0 1 0 n1 false∧nth fr 8=aP v:=by
 simp[gY,Tryz.f182,bh,h239,h0,h1,h6,hc1,hc2,hc3]
def I2:Code:=seq1 (seq1 (ai 5 gY))
theorem Pm:ai 5 gY = .seq (.seq I2 (.block 0 (.loop dX))) (ai 6 gY):=rfl
theorem O9 (L:Lst)(run:aw)(kk:Nat)(fr0:Ψ)(wr0:Ω)(U V v:Ω)(k:PV)(nu m:Nat)(hul:nu<1000001)(hm:nu=v.length+m)(h239:fr0.length=239)(h6:nth fr0 6=k)(h7:nth fr0 7 = .own 0 1 0 nu false)(h8:nth fr0 8=aP v) :
  ∃ fr wr,bh (CC L) run kk 2 (ai 3 gY) ⟨fr0,[⟨.live,U.map dg⟩,⟨.ro,V.map dg⟩],wr0⟩=some ⟨fr,hpL ⟨.ro,V.map dg⟩ U (List.replicate m 0),wr⟩∧fr.length=239∧nth fr 4 = .own 2 1 0 m true∧nth fr 6=k∧nth fr 7 = .own 0 1 0 nu false∧nth fr 8=aP v∧nth fr 9=iI v.length:=by
 have hw:bA .i64 ((nu:Int) - (v.length:Int))=(m:Int):=jx .i64 nu v.length m hm (hiI (by omega))
 have h1:m≤cS:=Nat.le_trans (show m≤1000000 by omega) (by decide)
 have e4:aP v = .imm v.length false (v.map dg):=rfl
 have hr:hpL ⟨.ro,V.map dg⟩ U (List.replicate m 0)=[⟨.live,U.map dg⟩,⟨.ro,V.map dg⟩,⟨.live,rep m [dg 0]⟩]:=by rw[sT]
 rw[hr]
 rw[e4] at h8 ⊢
 simp[gY,Tryz.f182,bh,h239,h6,h7,h8,bL,bn,cP,iw,s32,b32,z32,aO,ch,hw,h1]
theorem acD (L:Lst)(run:aw)(kk:Nat)(fr0:Ψ)(hp:Θ)(wr0:Ω)(v:Ω)(k:PV)(nu m n:Nat)(hul:nu<1000001)(hm:nu=n+m)(hvl:v.length=n)(h239:fr0.length=239)(h4:nth fr0 4 = .own 2 1 0 m true)(h6:nth fr0 6=k)(h7:nth fr0 7 = .own 0 1 0 nu false)(h8:nth fr0 8=aP v)(h9:nth fr0 9=iI v.length) :
  ∃ fr,ae (CC L) run kk I2 ⟨fr0,hp,wr0⟩=some (.normal,⟨fr,hp,wr0⟩)∧LH fr nu m k (.imm n false (v.map dg)) n m:=by
 subst hvl
 have hw:bA .i64 ((nu:Int) - (v.length:Int))=(m:Int):=jx .i64 nu v.length m hm (hiI (by omega))
 have hw2:=cM m (by omega)
 have e4:aP v = .imm v.length false (v.map dg):=rfl
 rw[e4] at h8
 simp[LH,I2,gY,Tryz.f182,seq1,h239,h4,h6,h7,h8,h9,bL,iw,hw,hw2]
theorem Pd (run:aw)(kk:Nat)(fr0:Ψ)(wr0:Ω)(U q:Ω)(b1:Blk)(k nu m n J:Nat)(v x y:PV)(fp:FP)(hnu:n≤nu)(h:LH fr0 nu m (dg k) v n J)
  (hc:bP (CC LK) run false (hpL b1 U q) 181 [.own 0 1 0 n false,dg k]=some (.tup [x,y],[⟨.ro,U.map dg⟩,b1,⟨.live,q.map dg⟩],fp)) :
  ∃ st,ae (CC LK) run kk (ai 6 gY) ⟨fr0,hpL b1 U q,wr0⟩=some (.ret,st)∧aX TT st.fr st.hp Tryz.f182.results.toList=some [.own 2 1 0 m true,x]∧st.hp=[⟨.ro,U.map dg⟩,b1,⟨.live,q.map dg⟩]:=by
 obtain⟨h0,h4,h6,h7,h8,h9,h10⟩:=h
 simp[gY,Tryz.f182,h0,h4,h6,h7,h9,bn,s32,dw,iJ,bnd,fv,gK,hnu,hc,aX]
def Ff:Ψ→Option Ψ
 | [p,q]=>match ia p,ia q with
  | some a,some b=>bif vd b && Nat.ble 2 b.length && Nat.ble b.length a.length && Nat.ble a.length 900000 then some [aP (cZ (a.length+1 - b.length) (val a / val b)),aP (cZ b.length (val a % val b))] else none
  | _,_=>none
 | _=>none
theorem Pu:Ab.Spec base.P 182 Ff:=Ab.Spec.bS (C:=CC LK) (cR akz) fun args rs h=>by
 unfold Ff at h
 split at h
 ·split at h
  ·rename_i a b ea eb
   obtain⟨rfl,ha,hla⟩:=dx ea
   obtain⟨rfl,hb,hlb⟩:=dx eb
   cases hc:vd b && Nat.ble 2 b.length && Nat.ble b.length a.length && Nat.ble a.length 900000 with
   | false=>rw[hc] at h;cases h
   | true =>
    rw[hc] at h
    simp only[cond_true,OiE] at h
    subst h
    simp only[Bool.and_eq_true,Nat.ble_eq] at hc
    obtain⟨⟨⟨hc1,hc2⟩,hc3⟩,hc4⟩:=hc
    have hT:=nM hc1
    obtain⟨mm,hmm⟩:∃ mm,b.length=mm+2:=⟨b.length - 2,by omega⟩
    obtain⟨k,hk⟩:∃ k,k=1000000000 / (at0 b (mm+1)+1):=⟨_,rfl⟩
    obtain⟨s1,s2,s3,s4,s5,s6⟩:=NI hb hT hmm hk
    have hblt:val a*k<1000000000 ^ (a.length+1):=by
     rw[Nat.pow_succ]
     exact Nat.lt_of_lt_of_le (Nat.mul_lt_mul_of_pos_right (eW ha) s1) (Nat.mul_le_mul_left _ (by omega))
    have hVlt:val b*k<1000000000 ^ (b.length+1):=by
     rw[Nat.pow_succ]
     exact Nat.lt_of_lt_of_le (Nat.mul_lt_mul_of_pos_right (eW hb) s1) (Nat.mul_le_mul_left _ (by omega))
    have hb0:0<val b:=by
     rcases Nat.eq_zero_or_pos (val b) with h | h
     ·rw[h] at s3
      have:0<1000000000 ^ (mm+1+1):=Nat.pow_pos (by omega)
      omega
     ·exact h
    obtain⟨f0,wr0,p1,p2,p3,p4⟩:=Pc LK (runK (CC LK) (a.length+3)) (a.length+3) (aP a) (aP b)
    obtain⟨f1,wr1,q1,q2,q3,q4,q5⟩:=Pb LK (runK (CC LK) (a.length+3)) (a.length+3) f0 wr0 a b (mm+1) _ _ k hb hlb hmm rfl rfl hk p2 p3 p4
    have hc1':=si (a.length+2) false [] a k ha s2 hla (by omega)
    have hc2':=si (a.length+2) false [⟨.live,(cZ (a.length+1) (val a*k)).map dg⟩] b k hb s2 hlb (by omega)
    have hc3':=JK (runK (CC LK) (a.length+3)) false [⟨.live,(cZ (a.length+1) (val a*k)).map dg⟩,⟨.live,(cZ (b.length+1) (val b*k)).map dg⟩] 1 (b.length+1) (cZ (b.length+1) (val b*k)) (gD _ _) (dn _ _) (by omega) rfl
    rw[fo _ _ hVlt] at hc3'
    obtain⟨f2,wr2,r1,r2,r3,r4,r5⟩:=Pa (runK (CC LK) (a.length+3)) (a.length+3) f1 wr1 a b (aJ (val b*k)) _ _ k _ _ _ _ _ q2 q3 q4 q5 hc1' hc2' hc3'
    have hvl:(aJ (val b*k)).length=b.length:=by rw[s5,hmm]
    obtain⟨f3,wr3,t1,t2,t3,t4,t5,t6,t7⟩:=O9 LK (runK (CC LK) (a.length+3)) (a.length+3) f2 wr2 (cZ (a.length+1) (val a*k)) (cZ (b.length+1) (val b*k)) (aJ (val b*k)) (dg k) (a.length+1) (a.length+1 - b.length) (by omega) (by omega) r2 r3 r4 r5
    obtain⟨f4,w1,w2⟩:=acD LK (runK (CC LK) (a.length+3)) (a.length+3) f3 (hpL ⟨.ro,(cZ (b.length+1) (val b*k)).map dg⟩ (cZ (a.length+1) (val a*k)) (List.replicate (a.length+1 - b.length) 0)) wr3 (aJ (val b*k)) (dg k) (a.length+1) (a.length+1 - b.length) b.length (by omega) (by omega) hvl t2 t3 t4 t5 t6 t7
    have hLI:=LI.init (a:=val a) (b:=val b) (k:=k) (n:=b.length) (la:=a.length) (u:=cZ (a.length+1) (val a*k)) (by rw[fo _ _ hblt,Nat.mul_comm]) (gD _ _) (dn _ _) (eW ha) (by rw[hmm];exact s3) s1 (by omega)
    have hvv:val (aJ (val b*k))=k*val b:=by rw[bX,Nat.mul_comm]
    rw[← hvv] at hLI
    obtain⟨f5,wr5,u,q,x1,x2,x3,x4⟩:=AL LK (runK (CC LK) (a.length+3)) (a.length+3) ⟨.ro,(cZ (b.length+1) (val b*k)).map dg⟩ _ (a.length+1) (a.length+1 - b.length) b.length mm (dg k) (aJ (val b*k)) (bU _) hvl hmm (by omega) (by omega) (by omega) s6 (a.length+1 - b.length) f4 wr3 _ _ hLI (by omega) (by simp) w2
    rw[hvv] at x2
    obtain⟨y1,y2⟩:=x2.done s1 hb0
    have hul:=x2.ul
    have hmod:=Nat.mod_lt (val a) hb0
    have hsm:val u<1000000000 ^ b.length:=by
     rw[y2,hmm]
     refine Nat.lt_trans ?_ s4
     rw[Nat.mul_comm]
     exact Nat.mul_lt_mul_of_pos_right hmod s1
    have htk:=wb hsm
    have hc4':=Ga (runK (CC LK) (a.length+3)) false (hpL ⟨.ro,(cZ (b.length+1) (val b*k)).map dg⟩ u q) 0 b.length k u x2.uok (by omega) (by omega) s1 s2 rfl
    rw[htk,y2,Nat.mul_div_cancel_left _ s1] at hc4'
    obtain⟨st,e1,e2,e3⟩:=Pd (runK (CC LK) (a.length+3)) (a.length+3) f5 wr5 u q _ k (a.length+1) (a.length+1 - b.length) b.length 0 _ _ _ _ (by omega) x4 hc4'
    have hx:ae (CC LK) (runK (CC LK) (a.length+3)) (a.length+3) gY ⟨entry 239 [aP a,aP b],[],[]⟩=some (.ret,st):=by
     rw[aY 1 p1,aY 1 q1,show ai 1 (ai 1 gY)=ai 2 gY from rfl,aY 1 r1,show ai 1 (ai 2 gY)=ai 3 gY from rfl,aY 2 t1,show ai 2 (ai 3 gY)=ai 5 gY from rfl,Pm,
      ar ((ar w1).trans (bE (bK x1 (by omega))))]
     exact e1
    have hq:q=cZ (a.length+1 - b.length) (val a / val b):=x2.qok.qj (by have:=x2.ql;omega) y1
    have hs:=wu (hp:=[⟨.ro,u.map dg⟩,⟨.ro,(cZ (b.length+1) (val b*k)).map dg⟩,⟨.live,q.map dg⟩]) (id:=2) (l:=q) rfl (a.length+1 - b.length) true (by omega) 10
    rw[take_of_length_le (by omega)] at hs
    refine⟨a.length+4,_,_,_,[.imm (a.length+1 - b.length) true (q.map dg),aP (cZ b.length (val a % val b))],[2],ba Q0 rfl hx e2,?_,?_,Wk.refl rfl,trivial⟩
    ·rw[e3]
     show bw (Ab.snap _ 12) _=_
     simp only[bw,hs]
     rfl
    ·rw[← hq]
     have:=Wk.imm (a.length+1 - b.length) true (q.map dg)
     rw[aP,x3]
     exact this
  ·cases h
 ·cases h
def Be (p:PV):Option Nat:=match ia p with
 | some l=>bif vd l then some (val l) else none
 | none=>none
theorem yu {p:PV}{n:Nat}(h:Be p=some n):p=aP (aJ n)∧(aJ n).length<1000000:=by
 unfold Be at h
 split at h
 ·rename_i l e
  obtain⟨h1,h2,h3⟩:=dx e
  cases ht:vd l with
  | false=>rw[ht] at h;cases h
  | true =>
   rw[ht] at h
   simp at h;subst h
   rw[kD h2 (nM ht)]
   exact⟨h1,h3⟩
 ·cases h
theorem mb {n:Nat}(h:(aJ n).length<1000000):Be (aP (aJ n))=some n:=by
 simp[Be,cW (bU n) h,qM (jI n),bX]
def L3:Lst:=[(167,jy),(146,tQ),(181,nO),(182,Ff)]
theorem akD:dE base.P L3:=⟨jj,zN,wC,Pu,trivial⟩
theorem ab6:bx L3 146=fun a=>tQ (aK a):=rfl
theorem Vq:bx L3 181=fun a=>nO (aK a):=rfl
theorem ab7:bx L3 182=fun a=>Ff (aK a):=rfl
theorem rS {y:Nat}(h:1000000000≤y):2≤(aJ y).length:=by
 rcases Nat.lt_or_ge (aJ y).length 2 with h2 | h2
 ·have h3:=fD y
  have h4:(1000000000:Nat) ^ (aJ y).length≤1000000000 ^ 1:=Nat.pow_le_pow_right (by omega) (by omega)
  omega
 ·exact h2
theorem JO (run:aw)(dr:Bool)(hp:Θ)(x y:Nat)(hx:(aJ x).length≤900000)(hy:1000000000≤y)(hxy:y≤x) :
  bP (CC L3) run dr hp 182 [aP (aJ x),aP (aJ y)]=some (.tup [aP (cZ ((aJ x).length+1 - (aJ y).length) (x / y)),aP (cZ (aJ y).length (x % y))],hp,⟨[],[],false,false⟩):=by
 have h1:=rS hy
 have h2:=cC hxy
 have h3:Nat.ble 2 (aJ y).length=true:=Nat.ble_eq ▸ h1
 have h4:Nat.ble (aJ y).length (aJ x).length=true:=Nat.ble_eq ▸ h2
 have h5:Nat.ble (aJ x).length 900000=true:=Nat.ble_eq ▸ hx
 exact bt aal ab7 run dr hp _ [aP (cZ ((aJ x).length+1 - (aJ y).length) (x / y)),aP (cZ (aJ y).length (x % y))] (nm hp _ _) (kF _ _)
  (by simp only[Ff,cW (bU x) (show (aJ x).length<1000000 by omega),cW (bU y) (show (aJ y).length<1000000 by omega),qM (jI y),h3,h4,h5,Bool.and_self,cond_true,bX])
theorem qv (run:aw)(dr:Bool)(hp:Θ)(x y:Nat)(hx:(aJ x).length<1000000)(hy:(aJ y).length<1000000) :
  bP (CC L3) run dr hp 146 [aP (aJ x),aP (aJ y)]=some (Ab.bN (dS x y),hp,⟨[],[],false,false⟩) :=
 bt Ld ab6 run dr hp _ [Ab.bN (dS x y)] (nm hp _ _) (kF _ _) (by simp only[tQ,cW (bU _) hx,cW (bU _) hy,mq])
theorem Ge (run:aw)(dr:Bool)(hp:Θ)(x b:Nat)(hx:(aJ x).length<1000000)(hb:0<b)(hb2:b<1000000000) :
  bP (CC L3) run dr hp 181 [aP (aJ x),dg b]=some (.tup [aP (cZ (aJ x).length (x / b)),dg (x % b)],hp,⟨[],[],false,false⟩):=by
 obtain⟨b,rfl⟩:∃ c,b=c+1:=⟨b - 1,by omega⟩
 exact bt Dr Vq run dr hp [aP (aJ x),dg (b+1)] [aP (cZ (aJ x).length (x / (b+1))),dg (x % (b+1))] rfl (by simp only[aK,fJ];rfl) (by simp only[nO,cW (bU _) hx,XL hb2,bX])
theorem JN (run:aw)(dr:Bool)(hp:Θ)(r:Nat)(hr:r<1000000000) :
  bP (CC L3) run dr hp 167 [.imm 1 true [dg r]]=some (aP (aJ r),hp,⟨[],[],false,false⟩):=by
 have h3:(CC L3).orc 167 [.imm 1 true [dg r]]=some [aP (aJ r)]:=by
  show jy (aK [.imm 1 true [dg r]])=_
  have h1:aK [.imm 1 true [dg r]]=[aP [r]]:=rfl
  have h2:Dok [r]:=Dok.nil.cons hr
  rw[h1]
  simp only[jy,cW h2 (by simp),eB h2]
  simp[val]
 have h4:bw (snap hp bq) [.imm 1 true [dg r]]=some ([.imm 1 true [dg r]],[]):=rfl
 exact eJ vu h4 h3 rfl
def tg:Code:=Tryz.f166.body.getD .skip
theorem EF(x y:Nat)(hx:(aJ x).length<1000000)(hy:(aJ y).length<1000000)(hxy:x<y) :
  ∃ st,ae (CC L3) run k tg ⟨entry 35 [aP (aJ x),aP (aJ y)],[],[]⟩=some (.ret,st)∧aX TT st.fr st.hp Tryz.f166.results.toList=some [.sc (.slice none 0 0),aP (aJ x)]:=by
 have hc:=fun hp dr=>qv run dr hp x y hx hy
 rw[dS,if_pos hxy] at hc
 simp only[Ab.bN] at hc
 obtain⟨e1,e2,e3⟩:=cl 33 (aP (aJ x)) (aP (aJ y))
 generalize entry 35 [aP (aJ x),aP (aJ y)]=fr0 at *
 generalize aJ x=a at *
 generalize aJ y=b at *
 simp[tg,Tryz.f166,e1,e2,e3,hc,aX]
theorem oy {y:Nat}(h:0<y)(h2:y<1000000000):aJ y=[y]:=by
 rw[dZ (by omega),Nat.mod_eq_of_lt h2,Nat.div_eq_of_lt h2,fq]
set_option maxHeartbeats 1000000 in
theorem EE(x y:Nat)(hx:(aJ x).length<1000000)(hy0:0<y)(hy:y<1000000000)(hxy:y≤x) :
  ∃ st,ae (CC L3) run k tg ⟨entry 35 [aP (aJ x),aP (aJ y)],[],[]⟩=some (.ret,st)∧aX TT st.fr st.hp Tryz.f166.results.toList=some [aP (cZ (aJ x).length (x / y)),aP (aJ (x % y))]:=by
 have hly:(aJ y).length<1000000:=by rw[oy hy0 hy];simp
 have hc:=fun hp dr=>qv run dr hp x y hx hly
 have hcz : ¬ (dS x y<0):=by
  unfold dS
  rw[if_neg (by omega)]
  by_cases h:x=y
  ·rw[if_pos h];omega
  ·rw[if_neg h];omega
 have hc2:=fun hp dr=>Ge run dr hp x y hx hy0 hy
 have hc3:=fun hp dr=>JN run dr hp (x % y) (Nat.lt_trans (Nat.mod_lt _ hy0) hy)
 rw[oy hy0 hy] at hc ⊢
 simp only[Ab.bN] at hc
 obtain⟨e1,e2,e3⟩:=cl 33 (aP (aJ x)) (aP [y])
 generalize entry 35 [aP (aJ x),aP [y]]=fr0 at *
 generalize aJ (x % y)=rr at *
 generalize cZ (aJ x).length (x / y)=qq at *
 generalize aJ x=a at *
 generalize dS x y=cc at *
 generalize x % y=r at *
 have e4:aP [y] = .imm 1 false [dg y]:=rfl
 rw[e4] at hc e3
 simp[tg,Tryz.f166,bL,bd,j9,cP,e1,e2,e3,hc,hc2,hc3,hcz,s32,a32,bp,oq,jU,aX]
set_option maxHeartbeats 1000000 in
theorem ED(x y:Nat)(hx:(aJ x).length≤900000)(hy:1000000000≤y)(hxy:y≤x) :
  ∃ st,ae (CC L3) run k tg ⟨entry 35 [aP (aJ x),aP (aJ y)],[],[]⟩=some (.ret,st)∧aX TT st.fr st.hp Tryz.f166.results.toList=some [aP (cZ ((aJ x).length+1 - (aJ y).length) (x / y)),aP (cZ (aJ y).length (x % y))]:=by
 have hly:(aJ y).length<1000000:=Nat.lt_of_le_of_lt (cC hxy) (by omega)
 have hc:=fun hp dr=>qv run dr hp x y (by omega) hly
 have hcz : ¬ (dS x y<0):=by
  unfold dS
  rw[if_neg (by omega)]
  by_cases h:x=y
  ·rw[if_pos h];omega
  ·rw[if_neg h];omega
 have hc2:=fun hp dr=>JO run dr hp x y hx hy hxy
 have hl1:(((aJ y).length:Int) == 1)=false:=by rw[beq_eq_false_iff_ne];have:=rS hy;omega
 simp only[Ab.bN] at hc
 obtain⟨e1,e2,e3⟩:=cl 33 (aP (aJ x)) (aP (aJ y))
 generalize entry 35 [aP (aJ x),aP (aJ y)]=fr0 at *
 generalize cZ ((aJ x).length+1 - (aJ y).length) (x / y)=qq at *
 generalize cZ (aJ y).length (x % y)=rr at *
 generalize aJ x=a at *
 generalize aJ y=b at *
 generalize dS x y=cc at *
 simp[tg,Tryz.f166,bL,cm,e1,e2,e3,hc,hc2,hcz,hl1,aX]
def lB:Ψ→Option Ψ
 | [p,q]=>match Be p,Be q with
  | some x,some y=>bif x.blt y then some [aP [],aP (aJ x)] else bif y.blt 1000000000 then (bif y.beq 0 then none else some [aP (cZ (aJ x).length (x / y)),aP (aJ (x % y))]) else
    bif (aJ x).length.ble 900000 then some [aP (cZ ((aJ x).length+1 - (aJ y).length) (x / y)),aP (cZ (aJ y).length (x % y))] else none
  | _,_=>none
 | _=>none
theorem mf {x y:Nat}(h : ¬ x<y):x.blt y=false:=by
 cases e:x.blt y with
 | false=>rfl
 | true=>rw[Nat.blt_eq] at e;exact absurd e h
theorem kJ {y:Nat}(h:y≠0):y.beq 0=false:=by
 cases y with
 | zero=>exact absurd rfl h
 | succ y=>rfl
theorem xx:Ab.Spec base.P 166 lB:=Ab.Spec.bS (C:=CC L3) (cR akD) fun args rs h=>by
 unfold lB at h
 split at h
 ·split at h
  ·rename_i x y ex ey
   obtain⟨rfl,hx⟩:=yu ex
   obtain⟨rfl,hy⟩:=yu ey
   by_cases hb:x<y
   ·have hb':x.blt y=true:=by rw[Nat.blt_eq];exact hb
    rw[hb'] at h
    simp only[cond_true,OiE] at h
    subst h
    obtain⟨st,e1,e2⟩:=EF (runK (CC L3) 1) 1 x y hx hy hb
    exact⟨2,_,_,_,[.sc (.slice none 0 0),aP (aJ x)],[],ba qA rfl e1 e2,rfl,Wk.nil false,Wk.refl rfl,trivial⟩
   ·rw[mf hb] at h
    by_cases hc:y<1000000000
    ·have hc':y.blt 1000000000=true:=by rw[Nat.blt_eq];exact hc
     rw[hc'] at h
     by_cases hy0:y=0
     ·subst hy0
      simp at h
     ·rw[kJ hy0] at h
      simp only[cond_true,cond_false,OiE] at h
      subst h
      obtain⟨st,e1,e2⟩:=EE (runK (CC L3) 1) 1 x y hx (by omega) hc (by omega)
      exact⟨2,_,_,_,_,_,ba qA rfl e1 e2,rfl,Wk.refl rfl,Wk.refl rfl,trivial⟩
    ·rw[mf hc] at h
     cases hd:(aJ x).length.ble 900000 with
     | false=>rw[hd] at h;simp at h
     | true =>
      rw[hd] at h
      simp only[cond_true,cond_false,OiE] at h
      subst h
      obtain⟨st,e1,e2⟩:=ED (runK (CC L3) 1) 1 x y (by rw[Nat.ble_eq] at hd;exact hd) (by omega) (by omega)
      exact⟨2,_,_,_,_,_,ba qA rfl e1 e2,rfl,Wk.refl rfl,Wk.refl rfl,trivial⟩
  ·cases h
 ·cases h
theorem xz (x y:Nat)(hx:(aJ x).length≤900000)(hy:(aJ y).length≤900000)(hy0:y≠0) :
  ∃ q r,lB [aP (aJ x),aP (aJ y)]=some [aP q,aP r]∧Dok q∧val q=x / y∧q.length<1000000∧Dok r∧val r=x % y∧r.length<1000000:=by
 have hx':(aJ x).length<1000000:=by omega
 have hy':(aJ y).length<1000000:=by omega
 have hm:=Nat.mod_lt x (show 0<y by omega)
 have hml:(aJ (x % y)).length<1000000:=Nat.lt_of_le_of_lt (cC (Nat.le_of_lt hm)) hy'
 by_cases hb:x<y
 ·have hb':x.blt y=true:=by rw[Nat.blt_eq];exact hb
  exact⟨[],aJ x,by simp only[lB,mb hx',mb hy',hb',cond_true],Dok.nil,by rw[Nat.div_eq_of_lt hb];rfl,by simp,bU _,by rw[bX,Nat.mod_eq_of_lt hb],hx'⟩
 ·by_cases hc:y<1000000000
  ·have hc':y.blt 1000000000=true:=by rw[Nat.blt_eq];exact hc
   exact⟨_,_,by simp only[lB,mb hx',mb hy',mf hb,hc',kJ hy0,cond_true,cond_false],gD _ _,fo _ _ (Nat.lt_of_le_of_lt (Nat.div_le_self x y) (fD x)),by rw[dn];exact hx',bU _,bX _,hml⟩
  ·have hd:(aJ x).length.ble 900000=true:=by rw[Nat.ble_eq];exact hx
   have h2:=rS (show 1000000000≤y by omega)
   have hle:=cC (show y≤x by omega)
   refine⟨cZ ((aJ x).length+1 - (aJ y).length) (x / y),cZ (aJ y).length (x % y),by simp only[lB,mb hx',mb hy',mf hb,mf hc,hd,cond_true,cond_false],gD _ _,fo _ _ ?_,by rw[dn];omega,gD _ _,fo _ _ (Nat.lt_trans hm (fD y)),by rw[dn];exact hy'⟩
   have h3:=fD x
   have h4:1000000000 ^ ((aJ y).length - 1)≤y:=by
    rcases Nat.lt_or_ge y (1000000000 ^ ((aJ y).length - 1)) with h | h
    ·have:=df h;omega
    ·exact h
   refine Nat.div_lt_of_lt_mul ?_
   refine Nat.lt_of_lt_of_le h3 (Nat.le_trans ?_ (Nat.mul_le_mul_right _ h4))
   rw[← Nat.pow_add]
   exact Nat.pow_le_pow_right (by omega) (by omega)
def L4:Lst:=[(167,jy),(166,lB),(165,CZ),(164,BH),(97,ofF)]
theorem akC:dE base.P L4:=⟨jj,xx,MX,G5,mM,trivial⟩
theorem ab5:bx L4 167=fun a=>jy (aK a):=rfl
theorem Vp:bx L4 166=fun a=>lB (aK a):=rfl
theorem ab4:bx L4 165=fun a=>CZ (aK a):=rfl
theorem Vo:bx L4 164=fun a=>BH (aK a):=rfl
theorem ajv:bx L4 97=fun a=>ofF (aK a):=rfl
theorem JM (run:aw)(dr:Bool)(hp:Θ)(r:Ω)(hd:Dok r)(hr:r.length<1000000) :
  bP (CC L4) run dr hp 167 [aP r]=some (aP (aJ (val r)),hp,⟨[],[],false,false⟩) :=
 bt vu ab5 run dr hp _ [aP (aJ (val r))] rfl (by simp only[aK,fJ]) (by simp only[jy,cW hd hr,eB hd])
theorem Gd (run:aw)(dr:Bool)(hp:Θ)(x y:Nat)(hx:(aJ x).length≤900000)(hy:(aJ y).length≤900000)(hy0:y≠0) :
  ∃ q r,bP (CC L4) run dr hp 166 [aP (aJ x),aP (aJ y)]=some (.tup [aP q,aP r],hp,⟨[],[],false,false⟩)∧Dok r∧val r=x % y∧r.length<1000000:=by
 obtain⟨q,r,h1,h2,h3,h4,h5,h6,h7⟩:=xz x y hx hy hy0
 exact⟨q,r,bt DB Vp run dr hp [aP (aJ x),aP (aJ y)] [aP q,aP r] (nm hp _ _) (kF _ _) h1,h5,h6,h7⟩
theorem yD (run:aw)(dr:Bool)(hp:Θ)(x:Nat)(hx:(aJ x).length≤2) :
  bP (CC L4) run dr hp 165 [aP (aJ x)]=some (Ab.bN (Int.ofNat x),hp,⟨[],[],false,false⟩) :=
 bt aae ab4 run dr hp _ [Ab.bN (Int.ofNat x)] rfl (by simp only[aK,fJ]) (by
  have:(aJ x).length.ble 2=true:=by rw[Nat.ble_eq];exact hx
  simp only[CZ,cW (bU x) (show (aJ x).length<1000000 by omega),this,cond_true,bX])
theorem Gc (run:aw)(dr:Bool)(hp:Θ)(x y:Nat) :
  bP (CC L4) run dr hp 164 [.sc (.int .i64 (x:Int)),.sc (.int .i64 (y:Int))]=some (.sc (.int .i64 ((Nat.gcd x y:Nat):Int)),hp,⟨[],[],false,false⟩) :=
 bt Sh Vo run dr hp _ [Ab.bN (Int.ofNat (Nat.gcd x y))] rfl rfl rfl
theorem YG (run:aw)(dr:Bool)(hp:Θ)(x:Nat)(hx:x<9223372036854775808) :
  bP (CC L4) run dr hp 97 [.sc (.int .i64 (x:Int))]=some (br (Int.ofNat x),hp,⟨[],[],false,false⟩) :=
 bt zU ajv run dr hp _ [br (Int.ofNat x)] rfl rfl (by
  have h1:decide (-9223372036854775808≤(x:Int))=true:=decide_eq_true (by omega)
  have h2:decide ((x:Int)<9223372036854775808)=true:=decide_eq_true (by omega)
  simp only[ofF,h1,h2,Bool.and_self,cond_true];rfl)
theorem Sm.le9 {z:Int}(h:Sm z):(aJ z.natAbs).length≤900000:=Nat.le_of_lt (Nat.lt_trans h (by decide))
def Fw:Code:=Tryz.f150.body.getD .skip
def zf:Code:=((Tryz.f150.body).bind aA).getD .skip
abbrev zW2:Blk:=⟨.live,[.sc (.bool false),.sc (.slice none 0 0)]⟩
theorem adj(h41:fr.length=41)(h6:nth fr 6=aP []) :
  ∃ fr',ae (CC L) run k zf ⟨fr,hp,wr⟩=some (.exit 0,⟨fr',hp,wr⟩)∧fr'.length=41∧nth fr' 4=nth fr 4∧nth fr' 5=nth fr 5:=by
 simp[zf,Tryz.f150,bL,cm,h41,h6]
set_option maxHeartbeats 1000000 in
theorem PE(x y:Nat)(hx:(aJ x).length≤900000)(hy:(aJ y).length≤900000)(hy0:y≠0)(hns : ¬ ((aJ x).length≤2∧(aJ y).length≤2))
  (h41:fr.length=41) (h5:nth fr 5=aP (aJ x)) (h6:nth fr 6=aP (aJ y)) :
  ∃ fr',ae (CC L4) run k zf ⟨fr,hp,wr⟩=some (.normal,⟨fr',hp,wr⟩)∧fr'.length=41∧nth fr' 4=nth fr 4∧nth fr' 5=aP (aJ y)∧nth fr' 6=aP (aJ (x % y)):=by
 obtain⟨q,rr,hc,hr1,hr2,hr3⟩:=Gd run false hp x y hx hy hy0
 have hc2:=fun dr=>JM run dr hp rr hr1 hr3
 rw[hr2] at hc2
 have hp0:=(cT (n:=y)).2 hy0
 have hne:aJ y≠[]:=by intro e;rw[e] at hp0;simp at hp0
 generalize aJ (x % y)=r at *
 generalize aJ x=a at *
 generalize aJ y=b at *
 by_cases h2:a.length≤2
 ·have h3 : ¬ (b.length≤2):=fun h=>hns ⟨h2,h⟩
  simp[zf,Tryz.f150,bL,cm,agW,h41,h5,h6,hp0,h2,h3,hc,hc2]
 ·simp[zf,Tryz.f150,bL,cm,agW,h41,h5,h6,hp0,h2,hc,hc2]
set_option maxHeartbeats 1000000 in
theorem adg (run:aw)(k:Nat)(fr:Ψ)(b0 b1:Blk)(wr:Ω)(x y:Nat)(hx:(aJ x).length≤2)(hy:(aJ y).length≤2)(hy0:y≠0)(h41:fr.length=41)(h4:nth fr 4 = .ptr 2 0)(h5:nth fr 5=aP (aJ x))(h6:nth fr 6=aP (aJ y)) :
  ∃ fr' wr',ae (CC L4) run k zf ⟨fr,[b0,b1,zW2],wr⟩=some (.ret,⟨fr',[b0,b1,⟨.live,[.sc (.bool false),aP (aJ (Nat.gcd x y))]⟩],wr'⟩)∧nth fr' 4 = .ptr 2 0:=by
 have hc1:=fun dr=>yD run dr [b0,b1,zW2] x hx
 have hc2:=fun dr=>yD run dr [b0,b1,zW2] y hy
 have hc3:=fun dr=>Gc run dr [b0,b1,zW2] x y
 have hg:Nat.gcd x y<9223372036854775808:=by
  have h1:=fD y
  have h2:=Nat.pow_le_pow_right (n:=1000000000) (by omega) hy
  have h3:=Nat.gcd_le_right x (show 0<y by omega)
  have h4:1000000000 ^ 2<9223372036854775808:=by decide
  omega
 have hc4:=fun dr=>YG run dr [b0,b1,zW2] (Nat.gcd x y) hg
 simp only[Ab.bN,Int.ofNat_eq_natCast] at hc1 hc2
 rw[show br (Int.ofNat (Nat.gcd x y)) = .agg [.sc (.bool false),aP (aJ (Nat.gcd x y))] from rfl] at hc4
 have hp0:=(cT (n:=y)).2 hy0
 have hne:aJ y≠[]:=by intro e;rw[e] at hp0;simp at hp0
 generalize aJ (Nat.gcd x y)=g at *
 generalize Nat.gcd x y=gg at *
 generalize aJ x=a at *
 generalize aJ y=b at *
 simp[zf,Tryz.f150,bL,cm,bm,bZ,bG,bg,agW,h41,h4,h5,h6,hp0,hx,hy,hc1,hc2,hc3,hc4,cg,ca,sW]
theorem Fv (run:aw)(k:Nat)(b0 b1:Blk) :
  ∀ (n y x:Nat) (fr:Ψ) (wr:Ω),y<n→(aJ x).length≤900000→(aJ y).length≤900000→fr.length=41→nth fr 4 = .ptr 2 0→nth fr 5=aP (aJ x)→nth fr 6=aP (aJ y) →
  (∃ fr' wr',cb (ae (CC L4) run k zf) n ⟨fr,[b0,b1,zW2],wr⟩=some (.exit 0,⟨fr',[b0,b1,zW2],wr'⟩)∧fr'.length=41∧nth fr' 4 = .ptr 2 0∧nth fr' 5=aP (aJ (Nat.gcd x y))) ∨
  (∃ fr' wr',cb (ae (CC L4) run k zf) n ⟨fr,[b0,b1,zW2],wr⟩=some (.ret,⟨fr',[b0,b1,⟨.live,[.sc (.bool false),aP (aJ (Nat.gcd x y))]⟩],wr'⟩)∧nth fr' 4 = .ptr 2 0)
 | 0,y,x,fr,wr,hn,_,_,_,_,_,_=>by omega
 | n+1,y,x,fr,wr,hn,hx,hy,h41,h4,h5,h6=>by
  by_cases hy0:y=0
  ·subst hy0
   obtain⟨fr',g1,g2,g3,g4⟩:=adj L4 run k fr [b0,b1,zW2] wr h41 h6
   exact .inl ⟨fr',wr,bu g1,g2,by rw[g3,h4],by rw[g4,h5,Nat.gcd_zero_right]⟩
  ·by_cases hs:(aJ x).length≤2∧(aJ y).length≤2
   ·obtain⟨fr',wr',g1,g2⟩:=adg run k fr b0 b1 wr x y hs.1 hs.2 hy0 h41 h4 h5 h6
    exact .inr ⟨fr',wr',du g1,g2⟩
   ·obtain⟨fr1,g1,g2,g3,g4,g5⟩:=PE run k fr [b0,b1,zW2] wr x y hx hy hy0 hs h41 h5 h6
    have hm:=Nat.mod_lt x (show 0<y by omega)
    have:=Fv run k b0 b1 n (x % y) y fr1 wr (by omega) hy (Nat.le_trans (cC (Nat.le_of_lt hm)) hy) g2 (by rw[g3,h4]) g4 g5
    rw[bT g1]
    rw[Nat.gcd_comm y (x % y),← Nat.gcd_rec,Nat.gcd_comm y x] at this
    exact this
theorem AY:ai 2 Fw = .seq (.block 0 (.loop zf)) (ai 3 Fw):=rfl
theorem adi (L:Lst)(run:aw)(k:Nat)(na nb:Bool)(a b:Ω) :
  ∃ fr wr,bh (CC L) run k 2 Fw ⟨entry 41 [wh na a,wh nb b],[],[]⟩=some ⟨fr,[⟨.live,[.sc (.bool na),aP a]⟩,⟨.live,[.sc (.bool nb),aP b]⟩,zW2],wr⟩∧fr.length=41∧nth fr 4 = .ptr 2 0∧nth fr 5=aP a∧nth fr 6=aP b:=by
 obtain⟨e1,e2,e3⟩:=cl 39 (wh na a) (wh nb b)
 generalize entry 41 [wh na a,wh nb b]=fr0 at *
 have e4:∀ n l,wh n l = .agg [.sc (.bool n),aP l]:=fun _ _=>rfl
 rw[e4] at e2 e3
 simp[Fw,Tryz.f150,bh,e1,e2,e3,bM,bm,uW,sD,zW,aD,wf0,wf1,aO,bp,number,FP.free,cw,FP.apart]
theorem WO (L:Lst)(run:aw)(k:Nat)(fr:Ψ)(b0 b1:Blk)(wr:Ω)(a:Ω)(h41:fr.length=41)(h4:nth fr 4 = .ptr 2 0)(h5:nth fr 5=aP a) :
  ∃ st,ae (CC L) run k (ai 3 Fw) ⟨fr,[b0,b1,zW2],wr⟩=some (.ret,st)∧aX TT st.fr st.hp Tryz.f150.results.toList=some [.agg [.sc (.bool false),aP a]]:=by
 simp[Fw,Tryz.f150,yy,bm,kE,bZ,bG,bg,h41,h4,h5,eK,zW,uW,wf0,wf1,sB,sD,sW,aW,dH,kr,ca,aX,cg,bp,bF]
theorem adh(b0 b1:Blk)(a:Ω)(h4:nth fr 4 = .ptr 2 0):aX TT fr [b0,b1,⟨.live,[.sc (.bool false),aP a]⟩] Tryz.f150.results.toList=some [.agg [.sc (.bool false),aP a]]:=by
 simp[Tryz.f150,aX,h4,bp,aW,sW,bF]
def ya:Ψ→Option Ψ
 | [p,q]=>match fQ p,fQ q with
  | some x,some y=>some [br (Int.ofNat (Nat.gcd x.natAbs y.natAbs))]
  | _,_=>none
 | _=>none
theorem rM:Ab.Spec base.P 150 ya:=Ab.Spec.bS (C:=CC L4) (cR akC) fun args rs h=>by
 unfold ya at h
 split at h
 ·split at h
  ·rename_i x y ex ey
   obtain⟨rfl,hx⟩:=dY ex
   obtain⟨rfl,hy⟩:=dY ey
   simp only[OiE] at h
   subst h
   obtain⟨f1,wr1,p1,p2,p3,p4,p5⟩:=adi L4 (runK (CC L4) (y.natAbs+1)) (y.natAbs+1) (bz x) (bz y) (aJ x.natAbs) (aJ y.natAbs)
   rcases Fv (runK (CC L4) (y.natAbs+1)) (y.natAbs+1) ⟨.live,[.sc (.bool (bz x)),aP (aJ x.natAbs)]⟩ ⟨.live,[.sc (.bool (bz y)),aP (aJ y.natAbs)]⟩ (y.natAbs+1) y.natAbs x.natAbs f1 wr1 (by omega) hx.le9 hy.le9 p2 p3 p4 p5 with ⟨f2,wr2,q1,q2,q3,q4⟩| ⟨f2,wr2,q1,q2⟩
   ·obtain⟨st,e1,e2⟩:=WO L4 (runK (CC L4) (y.natAbs+1)) (y.natAbs+1) f2 _ _ wr2 _ q2 q3 q4
    have hx:ae (CC L4) (runK (CC L4) (y.natAbs+1)) (y.natAbs+1) Fw ⟨entry 41 [br x,br y],[],[]⟩=some (.ret,st):=by
     rw[br,br,aY 2 p1,AY,ar (bE q1)]
     exact e1
    exact⟨y.natAbs+2,_,_,_,_,_,ba GH rfl hx e2,jF _ (Int.ofNat (Nat.gcd x.natAbs y.natAbs)),Wk.refl rfl,trivial⟩
   ·have hx:ae (CC L4) (runK (CC L4) (y.natAbs+1)) (y.natAbs+1) Fw ⟨entry 41 [br x,br y],[],[]⟩=some (.ret,⟨f2,[⟨.live,[.sc (.bool (bz x)),aP (aJ x.natAbs)]⟩,⟨.live,[.sc (.bool (bz y)),aP (aJ y.natAbs)]⟩,⟨.live,[.sc (.bool false),aP (aJ (Nat.gcd x.natAbs y.natAbs))]⟩],wr2⟩):=by
     rw[br,br,aY 2 p1,AY,bO (cJ q1)]
    exact⟨y.natAbs+2,_,_,_,_,_,ba GH rfl hx (adh f2 _ _ _ q2),jF _ (Int.ofNat (Nat.gcd x.natAbs y.natAbs)),Wk.refl rfl,trivial⟩
  ·cases h
 ·cases h
def L5:Lst:=[(166,lB),(152,fA),(101,jC),(97,ofF),(168,GW),(139,tE)]
theorem akB:dE base.P L5:=⟨xx,jB,kf,mM,wi,oI,trivial⟩
theorem Vn:bx L5 166=fun a=>lB (aK a):=rfl
theorem OZ:bx L5 152=fun a=>fA (aK a):=rfl
theorem ab3:bx L5 101=fun a=>jC (aK a):=rfl
theorem aju:bx L5 97=fun a=>ofF (aK a):=rfl
theorem agn:bx L5 168=fun a=>GW (aK a):=rfl
theorem ago:bx L5 139=fun a=>tE (aK a):=rfl
theorem Gb (run:aw)(dr:Bool)(x y:Nat)(hx:(aJ x).length≤900000)(hy:(aJ y).length≤900000)(hy0:y≠0) :
  ∃ q r,(∀ hp,bP (CC L5) run dr hp 166 [aP (aJ x),aP (aJ y)]=some (.tup [aP q,aP r],hp,⟨[],[],false,false⟩))∧Dok q∧val q=x / y∧q.length<1000000∧Dok r∧val r=x % y∧r.length<1000000:=by
 obtain⟨q,r,h1,h2⟩:=xz x y hx hy hy0
 exact⟨q,r,fun hp=>bt DB Vn run dr hp [aP (aJ x),aP (aJ y)] [aP q,aP r] (nm hp _ _) (kF _ _) h1,h2⟩
theorem sj (run:aw)(dr:Bool)(hp:Θ)(n:Bool)(l:Ω)(hd:Dok l)(hl:l.length<1000000) :
  bP (CC L5) run dr hp 152 [.sc (.bool n),aP l]=some (br (sgn n (val l)),hp,⟨[],[],false,false⟩) :=
 bt oU OZ run dr hp _ [br (sgn n (val l))] (MM hp n l) (F6 n l) (by simp only[fA,cW hd hl])
theorem JL (run:aw)(dr:Bool)(hp:Θ)(x:Int)(hx:Sm x):bP (CC L5) run dr hp 101 [br x]=some (Ab.bN x.sign,hp,⟨[],[],false,false⟩) :=
 bt vw ab3 run dr hp _ [Ab.bN x.sign] (nk hp x) (j6 x) (by simp only[jC,cK hx])
theorem YE (run:aw)(dr:Bool)(hp:Θ):bP (CC L5) run dr hp 97 [.sc (.int .i64 1)]=some (br 1,hp,⟨[],[],false,false⟩) :=
 bt zU aju run dr hp _ [br 1] rfl rfl rfl
theorem QG (run:aw)(dr:Bool)(hp:Θ)(x y:Int)(hx:Sm x)(hy:Sm y):bP (CC L5) run dr hp 168 [br x,br y]=some (br (x - y),hp,⟨[],[],false,false⟩) :=
 bt afs agn run dr hp _ [br (x - y)] (gI hp x y) (ft x y) (by simp only[GW,cK hx,cK hy])
theorem QH (run:aw)(dr:Bool)(hp:Θ)(x y:Int)(hx:Sm x)(hy:Sm y):bP (CC L5) run dr hp 139 [br x,br y]=some (br (x+y),hp,⟨[],[],false,false⟩) :=
 bt Ho ago run dr hp _ [br (x+y)] (gI hp x y) (ft x y) (by simp only[tE,cK hx,cK hy])
def divC:Code:=Tryz.f151.body.getD .skip
def yq (x y:Int):Bool := !(x.natAbs % y.natAbs).beq 0 && (bz x != bz y)
def m8 (x y:Int):Int:=bif yq x y then sgn (bz x != bz y) (x.natAbs / y.natAbs) - 1 else sgn (bz x != bz y) (x.natAbs / y.natAbs)
def Ct (x y:Int):Int:=bif yq x y then sgn (bz x) (x.natAbs % y.natAbs)+y else sgn (bz x) (x.natAbs % y.natAbs)
theorem Sm.of_le {x y:Int}(h:Sm y)(hl:x.natAbs≤y.natAbs):Sm x:=Nat.lt_of_le_of_lt (cC hl) h
theorem wI (n:Bool)(v:Nat):(sgn n v).natAbs=v:=by
 rw[sL];cases n <;> simp
set_option maxHeartbeats 4000000 in
theorem adS (run:aw)(k:Nat)(nx ny nq nr:Bool)(a b qd rd qq rr:Ω)
  (hc1:∀ hp,bP (CC L5) run false hp 166 [aP a,aP b]=some (.tup [aP qd,aP rd],hp,⟨[],[],false,false⟩))
  (hc2:∀ dr hp,bP (CC L5) run dr hp 152 [.sc (.bool (nx != ny)),aP qd]=some (.agg [.sc (.bool nq),aP qq],hp,⟨[],[],false,false⟩))
  (hc3:∀ dr hp,bP (CC L5) run dr hp 152 [.sc (.bool nx),aP rd]=some (.agg [.sc (.bool nr),aP rr],hp,⟨[],[],false,false⟩)) :
  ∃ fr wr,bh (CC L5) run k 3 divC ⟨entry 45 [wh nx a,wh ny b],[],[]⟩=some ⟨fr,[⟨.live,[.sc (.bool nx),aP a]⟩,⟨.live,[.sc (.bool ny),aP b]⟩,⟨.live,[.sc (.bool nq),aP qq]⟩,⟨.live,[.sc (.bool nr),aP rr]⟩],wr⟩∧fr.length=45∧nth fr 2 = .ptr 0 0∧nth fr 3 = .ptr 1 0∧nth fr 4 = .ptr 2 0∧nth fr 5 = .ptr 3 0:=by
 obtain⟨e1,e2,e3⟩:=cl 43 (wh nx a) (wh ny b)
 generalize entry 45 [wh nx a,wh ny b]=fr0 at *
 have e4:∀ n l,wh n l = .agg [.sc (.bool n),aP l]:=fun _ _=>rfl
 rw[e4] at e2 e3
 cases nx <;> cases ny <;> simp only[bne_self_eq_false,Bool.bne_true,Bool.bne_false,Bool.not_false] at hc2 <;>
 simp[divC,Tryz.f151,bh,e1,e2,e3,dK,bM,bm,bZ,bG,bg,hc1,hc2,hc3,uB,uW,sB,sD,sW,zW,aB,aD,wf0,wf1,aO,cg,bp,ca,number,FP.free,cw,FP.apart]
def ly:Code→Array Oper
 | .region _ ops _=>ops
 | .cond _ a _=>ly a
 | _=>#[]
def rR:Code:=seq1 (ai 3 divC)
theorem Ba:ai 3 divC = .seq rR (ai 4 divC):=rfl
set_option maxHeartbeats 4000000 in
theorem XC (run:aw)(k:Nat)(fr:Ψ)(wr:Ω)(nx ny nq nr:Bool)(a b qq rr:Ω)(s:Int)(hne:s=0∨nx=ny)
  (hc4:∀ dr hp,bP (CC L5) run dr hp 101 [.agg [.sc (.bool nr),aP rr]]=some (.sc (.int .i64 s),hp,⟨[],[],false,false⟩))
  (h45:fr.length=45) (h2:nth fr 2 = .ptr 0 0) (h3:nth fr 3 = .ptr 1 0) (h4:nth fr 4 = .ptr 2 0) (h5:nth fr 5 = .ptr 3 0) :
  ∃ fr' wr',ae (CC L5) run k rR ⟨fr,[⟨.live,[.sc (.bool nx),aP a]⟩,⟨.live,[.sc (.bool ny),aP b]⟩,⟨.live,[.sc (.bool nq),aP qq]⟩,⟨.live,[.sc (.bool nr),aP rr]⟩],wr⟩=some (.normal,⟨fr',[⟨.live,[.sc (.bool nx),aP a]⟩,⟨.live,[.sc (.bool ny),aP b]⟩,⟨.live,[.sc (.bool nq),aP qq]⟩,⟨.live,[.sc (.bool nr),aP rr]⟩],wr'⟩)∧fr'.length=45∧nth fr' 4 = .ptr 2 0∧nth fr' 5 = .ptr 3 0:=by
 by_cases hs:s=0
 ·subst hs
  simp[rR,divC,Tryz.f151,seq1,h45,h4,h5,hc4,sW,aW,bp,bF]
 ·have hn:nx=ny:=by rcases hne with h | h;exact absurd h hs;exact h
  subst hn
  have hs2:(s != 0)=true:=by simpa using hs
  cases nx <;> simp[rR,divC,Tryz.f151,seq1,h45,h2,h3,h4,h5,dK,bM,hc4,hs2,uB,uW,sB,sW,aB,aW,wf0,wf1,bp,bF]
theorem ahy:((Region.before (ly (aQ rR)))[6]?.getD 0).testBit 0=true:=by kernel_rfl
theorem ahx:((Region.before (ly (aQ rR)))[7]?.getD 0).testBit 3=true:=by kernel_rfl
theorem ahw:((Region.before (ly (seq1 (ai 4 divC))))[2]?.getD 0).testBit 0=true:=by kernel_rfl
theorem ahv:((Region.before (ly (seq1 (ai 4 divC))))[3]?.getD 0).testBit 1=true:=by kernel_rfl
set_option maxHeartbeats 4000000 in
theorem XB (run:aw)(k:Nat)(fr:Ψ)(wr:Ω)(nx nq nr nq2 nr2:Bool)(a b qq rr qq2 rr2 one:Ω)(s:Int)(hs:s≠0)
  (hc4:∀ dr hp,bP (CC L5) run dr hp 101 [.agg [.sc (.bool nr),aP rr]]=some (.sc (.int .i64 s),hp,⟨[],[],false,false⟩))
  (hc5:∀ dr hp,bP (CC L5) run dr hp 97 [.sc (.int .i64 1)]=some (.agg [.sc (.bool false),aP one],hp,⟨[],[],false,false⟩))
  (hc6:∀ dr hp,bP (CC L5) run dr hp 168 [.agg [.sc (.bool nq),aP qq],.agg [.sc (.bool false),aP one]]=some (.agg [.sc (.bool nq2),aP qq2],hp,⟨[],[],false,false⟩))
  (hc7:∀ dr hp,bP (CC L5) run dr hp 139 [.agg [.sc (.bool nr),aP rr],.agg [.sc (.bool (!nx)),aP b]]=some (.agg [.sc (.bool nr2),aP rr2],hp,⟨[],[],false,false⟩))
  (h45:fr.length=45) (h2:nth fr 2 = .ptr 0 0) (h3:nth fr 3 = .ptr 1 0) (h4:nth fr 4 = .ptr 2 0) (h5:nth fr 5 = .ptr 3 0) :
  ∃ fr' wr',ae (CC L5) run k rR ⟨fr,[⟨.live,[.sc (.bool nx),aP a]⟩,⟨.live,[.sc (.bool (!nx)),aP b]⟩,⟨.live,[.sc (.bool nq),aP qq]⟩,⟨.live,[.sc (.bool nr),aP rr]⟩],wr⟩=some (.normal,⟨fr',[⟨.live,[.sc (.bool nx),aP a]⟩,⟨.live,[.sc (.bool (!nx)),aP b]⟩,⟨.live,[.sc (.bool nq2),aP qq2]⟩,⟨.live,[.sc (.bool nr2),aP rr2]⟩],wr'⟩)∧fr'.length=45∧nth fr' 4 = .ptr 2 0∧nth fr' 5 = .ptr 3 0:=by
 have hs2:(s != 0)=true:=by simpa using hs
 have hb1:=ahy
 have hb2:=ahx
 simp only[rR,divC,Tryz.f151,seq1,aQ,ai,ly,Option.getD_some] at hb1 hb2
 cases nx <;> simp only[Bool.not_true,Bool.not_false] at hc7 ⊢ <;> simp[-Nat.testBit_zero,hb1,hb2,rR,divC,Tryz.f151,seq1,h45,h2,h3,h4,h5,dK,bM,bm,bZ,bG,bg,hc4,hc5,hc6,hc7,hs2,uB,uW,sB,sW,aB,aW,wf0,wf1,cg,ca,bp,bF,number,FP.free,cw,FP.apart]
set_option maxHeartbeats 4000000 in
theorem FL(b0 b1:Blk)(nq nr:Bool)(qq rr:Ω)(h45:fr.length=45)(h4:nth fr 4 = .ptr 2 0)(h5:nth fr 5 = .ptr 3 0) :
  ∃ st,ae (CC L) run k (ai 4 divC) ⟨fr,[b0,b1,⟨.live,[.sc (.bool nq),aP qq]⟩,⟨.live,[.sc (.bool nr),aP rr]⟩],wr⟩=some (.ret,st)∧aX TT st.fr st.hp Tryz.f151.results.toList=some [.agg [.sc (.bool nq),aP qq],.agg [.sc (.bool nr),aP rr]]:=by
 have hb1:=ahw
 have hb2:=ahv
 simp only[divC,Tryz.f151,seq1,ai,ly,Option.getD_some] at hb1 hb2
 simp[-Nat.testBit_zero,hb1,hb2,divC,Tryz.f151,h45,h4,h5,bm,bZ,bG,bg,sW,aW,cg,ca,bp,bF,aX,number,FP.free,cw,FP.apart]
theorem SM (n:Bool):sgn n 0=0:=by cases n <;> rfl
theorem Sg {n:Bool}{v:Nat}(h:v≠0):(sgn n v).sign≠0:=by
 intro h'
 have h2:=Int.sign_eq_zero_iff_zero.1 h'
 rw[sL] at h2
 cases n <;> simp at h2 <;> omega
theorem XD(x y:Int)(hx:Sm x)(hy:Sm y)(hy0:y.natAbs≠0) :
  ∃ st,ae (CC L5) run k divC ⟨entry 45 [br x,br y],[],[]⟩=some (.ret,st)∧aX TT st.fr st.hp Tryz.f151.results.toList=some [br (m8 x y),br (Ct x y)]:=by
 obtain⟨q,rd,hc1,hq1,hq2,hq3,hr1,hr2,hr3⟩:=Gb run false x.natAbs y.natAbs hx.le9 hy.le9 hy0
 have hm:=Nat.mod_lt x.natAbs (show 0<y.natAbs by omega)
 have hc2:=fun dr hp=>sj run dr hp (bz x != bz y) q hq1 hq3
 have hc3:=fun dr hp=>sj run dr hp (bz x) rd hr1 hr3
 rw[hq2] at hc2
 rw[hr2] at hc3
 have hRS:Sm (sgn (bz x) (x.natAbs % y.natAbs)):=hy.of_le (by rw[wI];omega)
 have hQS:Sm (sgn (bz x != bz y) (x.natAbs / y.natAbs)):=hx.of_le (by rw[wI];exact Nat.div_le_self _ _)
 have hc4:=fun dr hp=>JL run dr hp _ hRS
 have hsg:x.natAbs % y.natAbs≠0→(sgn (bz x) (x.natAbs % y.natAbs)).sign≠0:=fun h=>Sg h
 have hsg0:x.natAbs % y.natAbs=0→(sgn (bz x) (x.natAbs % y.natAbs)).sign=0:=fun h=>by rw[h,SM];rfl
 obtain⟨Q,hQ⟩:∃ Q,Q=sgn (bz x != bz y) (x.natAbs / y.natAbs):=⟨_,rfl⟩
 obtain⟨R,hR⟩:∃ R,R=sgn (bz x) (x.natAbs % y.natAbs):=⟨_,rfl⟩
 have hdq:m8 x y=bif yq x y then Q - 1 else Q:=by rw[hQ];rfl
 have hdr:Ct x y=bif yq x y then R+y else R:=by rw[hR];rfl
 rw[hdq,hdr]
 rw[← hQ] at hc2 hQS
 rw[← hR] at hc3 hc4 hRS hsg hsg0
 simp only[whW,Ab.bN] at hc2 hc3 hc4
 obtain⟨f1,wr1,p1,p2,p3,p4,p5,p6⟩:=adS run k (bz x) (bz y) (bz Q) (bz R) (aJ x.natAbs) (aJ y.natAbs) q rd (aJ Q.natAbs) (aJ R.natAbs) hc1 hc2 hc3
 by_cases hd:x.natAbs % y.natAbs≠0∧bz x≠bz y
 ·have hA:yq x y=true:=by
   have h1:(x.natAbs % y.natAbs).beq 0=false:=by
    cases e:x.natAbs % y.natAbs with
    | zero=>exact absurd e hd.1
    | succ n=>rfl
   have h2:(bz x != bz y)=true:=by simpa using hd.2
   simp[yq,h1,h2]
  have hn:bz y = !bz x:=by
   revert hd;cases bz x <;> cases bz y <;> simp
  have hc5:=fun dr hp=>YE run dr hp
  have hc6:=fun dr hp=>QG run dr hp Q 1 hQS (show Sm 1 by unfold Sm;decide)
  have hc7:=fun dr hp=>QH run dr hp R y hRS hy
  rw[hA]
  simp only[cond_true]
  simp only[whW] at hc5 hc6 hc7
  rw[show bz (1:Int)=false from rfl] at hc5 hc6
  rw[hn] at hc7 p1
  obtain⟨f2,wr2,q1,q2,q3,q4⟩:=XB run k f1 wr1 (bz x) (bz Q) (bz R) (bz (Q - 1)) (bz (R+y)) (aJ x.natAbs) (aJ y.natAbs) (aJ Q.natAbs) (aJ R.natAbs) (aJ (Q - 1).natAbs) (aJ (R+y).natAbs) (aJ (1:Int).natAbs) R.sign (hsg hd.1) hc4 hc5 hc6 hc7 p2 p3 p4 p5 p6
  obtain⟨st,e1,e2⟩:=FL L5 run k f2 wr2 ⟨.live,[.sc (.bool (bz x)),aP (aJ x.natAbs)]⟩ ⟨.live,[.sc (.bool (!bz x)),aP (aJ y.natAbs)]⟩ (bz (Q - 1)) (bz (R+y)) (aJ (Q - 1).natAbs) (aJ (R+y).natAbs) q2 q3 q4
  refine⟨st,?_,e2⟩
  rw[br,br,hn,aY 3 p1,Ba,ar q1]
  exact e1
 ·have hA:yq x y=false:=by
   by_cases h0:x.natAbs % y.natAbs=0
   ·simp[yq,h0]
   ·have h2:bz x=bz y:=by
     refine Classical.byContradiction fun h3=>hd ⟨h0,h3⟩
    simp[yq,h2]
  have hne:R.sign=0∨bz x=bz y:=by
   by_cases h0:x.natAbs % y.natAbs=0
   ·exact .inl (hsg0 h0)
   ·exact .inr (Classical.byContradiction fun h3=>hd ⟨h0,h3⟩)
  rw[hA]
  simp only[cond_false]
  obtain⟨f2,wr2,q1,q2,q3,q4⟩:=XC run k f1 wr1 (bz x) (bz y) (bz Q) (bz R) (aJ x.natAbs) (aJ y.natAbs) (aJ Q.natAbs) (aJ R.natAbs) R.sign hne hc4 p2 p3 p4 p5 p6
  obtain⟨st,e1,e2⟩:=FL L5 run k f2 wr2 ⟨.live,[.sc (.bool (bz x)),aP (aJ x.natAbs)]⟩ ⟨.live,[.sc (.bool (bz y)),aP (aJ y.natAbs)]⟩ (bz Q) (bz R) (aJ Q.natAbs) (aJ R.natAbs) q2 q3 q4
  refine⟨st,?_,e2⟩
  rw[br,br,aY 3 p1,Ba,ar q1]
  exact e1
def XE:Ψ→Option Ψ
 | [p,q]=>match fQ p,fQ q with
  | some x,some y=>bif !(y.natAbs.beq 0) then some [br (m8 x y),br (Ct x y)] else none
  | _,_=>none
 | _=>none
theorem af8(x y:Int):bw (snap hp bq) [br x,br y]=some ([br x,br y],[]):=rfl
theorem XA:Ab.Spec base.P 151 XE:=Ab.Spec.bS (C:=CC L5) (cR akB) fun args rs h=>by
 unfold XE at h
 split at h
 ·split at h
  ·rename_i x y ex ey
   obtain⟨rfl,hx⟩:=dY ex
   obtain⟨rfl,hy⟩:=dY ey
   by_cases hy0:y.natAbs=0
   ·rw[hy0] at h;simp at h
   ·rw[kJ hy0] at h
    simp only[Bool.not_false,cond_true,OiE] at h
    subst h
    obtain⟨st,e1,e2⟩:=XD (runK (CC L5) 1) 1 x y hx hy hy0
    exact⟨2,_,_,_,_,_,ba GJ rfl e1 e2,af8 _ _ _,Wk.refl rfl,Wk.refl rfl,trivial⟩
  ·cases h
 ·cases h
end Go.Proofs.YtjdmodeenbdfpaaGreat
end
