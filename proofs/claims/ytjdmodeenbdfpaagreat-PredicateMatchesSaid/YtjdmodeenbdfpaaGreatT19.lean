/- Contracts of num's integers, part 19 of the proof; each lemma states its own conditions. -/
import Derived.Test.YtjdmodeenbdfpaaGreatT18
set_option linter.unusedSimpArgs false
set_option linter.unusedVariables false
noncomputable section
namespace Go.Proofs.YtjdmodeenbdfpaaGreat
open Go Go.Ab List
attribute [local simp] FzZ LF aA aC aF aG aH aX aa ab ae af ag ah ai aj an and_assoc ao aq aw az bc bd bj bm dz eA ir s32 seq1 uD
theorem xM (L:Lst)(run:ar)(kk:Nat)(b1:Blk)(u v q:List Nat)(m n j g:Nat)(k:PV)(hu:Dok u)(hv:Dok v)(hvl:v.length=n)(hul:u.length<1000001)(hjn:j+n<u.length)(hg:g<1000000000) :
  ∀ (d i:Nat) (fr:List PV) (wr:List Nat) (c:List Nat) (bo:Nat),i+d=n→MS u v c j g i bo→LF fr u.length m k (.imm n false (v.map dg)) n j→nth fr 12=iU g→nth fr 14=iI bo→nth fr 123=iI n→nth fr 124=iI i →
  ∃ (fr':List PV) (wr' c':List Nat) (bo':Nat),cu (af (CC L) run kk ob) (d+1) ⟨fr,hpL b1 c q,wr⟩=some (.exit 4,⟨fr',hpL b1 c' q,wr'⟩)∧LF fr' u.length m k (.imm n false (v.map dg)) n j∧nth fr' 12=iU g∧nth fr' 14=iI bo'∧MS u v c' j g n bo'
 | 0,i,fr,wr,c,bo,hi,hM,h,h12,h14,h123,h124=>by
  have:i=n:=by omega
  subst this
  obtain⟨fr',q1,q2,q3,q4⟩:=Ow L run kk fr (hpL b1 c q) wr u.length m i j k _ _ _ h h12 h14 h123 h124
  exact⟨fr',wr,c,bo,bD q1,q2,q3,q4,hM⟩
 | d+1,i,fr,wr,c,bo,hi,hM,h,h12,h14,h123,h124=>by
  have hst:=hM.step hu hv (by omega)
  have hw:=abi (u:=at0 u (j+i)) (v:=at0 v i) (g:=g) (bo:=bo) (p:=g*at0 v i) rfl (cF hu _) hg hM.le
  have hX:=H7 (at0 u (j+i)) (at0 v i) g bo
  have hcl:c.length=u.length:=hM.len
  have hat:=hM.at
  obtain⟨fr1,wr1,q1,q2,q3,q4,q5,q6⟩:∃ fr' wr',af (CC L) run kk ob ⟨fr,hpL b1 c q,wr⟩=some (.normal,⟨fr',hpL b1 (c.set (j+i) (msX (at0 u (j+i)) (at0 v i) g bo)) q,wr'⟩)∧LF fr' c.length m k (.imm n false (v.map dg)) n j∧nth fr' 12=iU g∧nth fr' 14=iI (msB (at0 u (j+i)) (at0 v i) g bo)∧nth fr' 123=iI n∧nth fr' 124=iI (i+1):=by
   rw[← hcl] at h
   rcases hw with ⟨w1,w2,w3⟩| ⟨w1,w2,w3,w4⟩| ⟨w1,w2,w3⟩
   ·exact abv L run kk fr b1 wr c v q m n j (j+i) i g bo _ _ _ _ _ k hM.ok hv hvl (by omega) (Nat.add_comm _ _) (by omega) (by omega) hg hM.le rfl rfl rfl h h12 h14 h123 h124 hX (by rw[hat];exact w1) (by rw[hat];exact w2) w3
   ·exact abu L run kk fr b1 wr c v q m n j (j+i) i g bo _ _ _ _ _ k hM.ok hv hvl (by omega) (Nat.add_comm _ _) (by omega) (by omega) hg hM.le rfl rfl rfl h h12 h14 h123 h124 hX (by rw[hat];exact w1) (by rw[hat];exact w2) (by rw[hat];exact w3) w4
   ·exact abt L run kk fr b1 wr c v q m n j (j+i) i g bo _ _ _ _ _ k hM.ok hv hvl (by omega) (Nat.add_comm _ _) (by omega) (by omega) hg hM.le rfl rfl rfl h h12 h14 h123 h124 hX (by rw[hat];exact w1) (by rw[hat];exact w2) w3
  rw[hcl] at q2
  obtain⟨fr',wr',c',bo',r1,r2⟩:=xM L run kk b1 u v q m n j g k hu hv hvl hul hjn hg d (i+1) fr1 wr1 _ _ (by omega) hst q2 q3 q4 q5 q6
  exact⟨fr',wr',c',bo',by rw[ct q1];exact r1,r2⟩
theorem OA (L:Lst)(run:ar)(kk:Nat)(fr:List PV)(hp:List Blk)(wr:List Nat)(nu m n j:Nat)(k v g x c:PV)(h:LF fr nu m k v n j)(h12:nth fr 12=g)(h17:nth fr 17=x)(h18:nth fr 18=c)(h188:nth fr 188=iI n)(h189:nth fr 189=iI n) :
  ∃ fr',af (CC L) run kk Az ⟨fr,hp,wr⟩=some (.exit 6,⟨fr',hp,wr⟩)∧LF fr' nu m k v n j∧nth fr' 12=g∧nth fr' 17=x∧nth fr' 18=c:=by
 obtain⟨h0,h4,h6,h7,h8,h9,h10⟩:=h
 simp[Az,Tryz.f182,h0,h4,h6,h7,h8,h9,h10,h12,h17,h18,h188,h189]
set_option maxHeartbeats 4000000 in
theorem EC (L:Lst)(run:ar)(kk:Nat)(fr:List PV)(b1:Blk)(wr:List Nat)(c v q:List Nat)(m n j p i cy s:Nat)(k g x:PV)(hc:Dok c)(hv:Dok v)(hvl:v.length=n)(hcl:c.length<1000001)
  (hp:p=i+j) (hi:i<n) (hpc:p<c.length) (hcy:cy≤1) (hs:s=at0 c p+at0 v i+cy)
  (h:LF fr c.length m k (.imm n false (v.map dg)) n j) (h12:nth fr 12=g) (h17:nth fr 17=x) (h18:nth fr 18 = .sc (.int .u32 (cy:Int))) (h188:nth fr 188=iI n) (h189:nth fr 189=iI i) :
  ∃ fr' wr',af (CC L) run kk Az ⟨fr,hpL b1 c q,wr⟩=some (.normal,⟨fr',hpL b1 (c.set p (s % 1000000000)) q,wr'⟩)∧LF fr' c.length m k (.imm n false (v.map dg)) n j∧nth fr' 12=g∧nth fr' 17=x∧nth fr' 18 = .sc (.int .u32 ((s / 1000000000:Nat):Int))∧nth fr' 188=iI n∧nth fr' 189=iI (i+1):=by
 obtain⟨h0,h4,h6,h7,h8,h9,h10⟩:=h
 have hiv:i<v.length:=by omega
 have hd1:=de c p hpc
 have hd2:=de v i hiv
 have a1:=cF hc p
 have a2:=cF hv i
 obtain⟨X,hX⟩:∃ X,X=s % 1000000000:=⟨_,rfl⟩
 obtain⟨Q,hQ⟩:∃ Q,Q=s / 1000000000:=⟨_,rfl⟩
 have hov:=jw c p X hpc
 generalize at0 c p=a at *
 generalize at0 v i=b at *
 obtain⟨s1,hs1⟩:∃ s1,s1=a+b:=⟨_,rfl⟩
 rw[← hs1] at hs
 rw[← hX,← hQ]
 have hwp:=dD .i64 i j p hp (hiI (by omega))
 have hw0:=dD .u32 a b s1 hs1 (iZ (by omega))
 have hw1:=dD .u32 s1 cy s hs (iZ (by omega))
 have hw2:=jQ .u32 s Q hQ (iZ (by omega))
 have hw3:=lO s X hX
 have hwi:=bH i (by omega)
 simp[Az,Tryz.f182,bg,partOf,bh,dE,gH,h0,h4,h6,h7,h8,h9,h10,h12,h17,h18,h188,h189,a32,aV,aY,bZ,hpc,hi,hd1,hd2,hov,hwp,hw0,hw1,hw2,hw3,hwi,il X,number,FP.free]
theorem xO (L:Lst)(run:ar)(kk:Nat)(b1:Blk)(u v q:List Nat)(m n j:Nat)(k g x:PV)(hu:Dok u)(hv:Dok v)(hvl:v.length=n)(hul:u.length<1000001)(hjn:j+n<u.length) :
  ∀ (d i:Nat) (fr:List PV) (wr:List Nat) (c:List Nat) (cy:Nat),i+d=n→AB u v c j i cy→LF fr u.length m k (.imm n false (v.map dg)) n j→nth fr 12=g→nth fr 17=x→nth fr 18 = .sc (.int .u32 (cy:Int))→nth fr 188=iI n→nth fr 189=iI i →
  ∃ (fr':List PV) (wr' c':List Nat) (cy':Nat),cu (af (CC L) run kk Az) (d+1) ⟨fr,hpL b1 c q,wr⟩=some (.exit 6,⟨fr',hpL b1 c' q,wr'⟩)∧LF fr' u.length m k (.imm n false (v.map dg)) n j∧nth fr' 12=g∧nth fr' 17=x∧nth fr' 18 = .sc (.int .u32 (cy':Int))∧AB u v c' j n cy'
 | 0,i,fr,wr,c,cy,hi,hM,h,h12,h17,h18,h188,h189=>by
  have:i=n:=by omega
  subst this
  obtain⟨fr',q1,q2,q3,q4,q5⟩:=OA L run kk fr (hpL b1 c q) wr u.length m i j k _ _ _ _ h h12 h17 h18 h188 h189
  exact⟨fr',wr,c,cy,bD q1,q2,q3,q4,q5,hM⟩
 | d+1,i,fr,wr,c,cy,hi,hM,h,h12,h17,h18,h188,h189=>by
  have hst:=hM.step hu hv (by omega)
  have hcl:c.length=u.length:=hM.len
  have hat:=hM.at
  rw[← hcl] at h
  obtain⟨fr1,wr1,q1,q2,q3,q4,q5,q6,q7⟩:=EC L run kk fr b1 wr c v q m n j (j+i) i cy _ k g x hM.ok hv hvl (by omega) (Nat.add_comm _ _) (by omega) (by omega) hM.le (congrArg (· + at0 v i+cy) hat.symm) h h12 h17 h18 h188 h189
  rw[hcl] at q2
  obtain⟨fr',wr',c',cy',r1,r2⟩:=xO L run kk b1 u v q m n j k g x hu hv hvl hul hjn d (i+1) fr1 wr1 _ _ (by omega) hst q2 q3 q4 q5 q6 q7
  exact⟨fr',wr',c',cy',by rw[ct q1];exact r1,r2⟩
def BS:Code:=seq1 (seq1 (ah 4 dz))
def o0:Code:=seq1 (seq1 (ah 6 dz))
def nj:Code:=match cw (seq1 (ah 6 dz)) with | .cond _ a _=>a | c=>c
def BR:Code:=seq1 (seq1 (ah 2 nj))
theorem OE:ah 2 dz = .seq (.block 2 (.loop lb)) (ah 3 dz):=rfl
theorem OD:ah 4 dz = .seq (.seq BS (.block 4 (.loop ob))) (ah 5 dz):=rfl
theorem OC:ah 6 dz = .seq (.seq o0 (.cond (.tmp 185) nj .skip)) (ah 7 dz):=rfl
theorem UW:ah 2 nj = .seq (.seq BR (.block 6 (.loop Az))) (ah 3 nj):=rfl
theorem UX:eA = .seq (seq1 eA) (.seq (.block 1 dz) (ah 2 eA)):=rfl
theorem UR (L:Lst)(run:ar)(kk:Nat)(fr:List PV)(hp:List Blk)(wr:List Nat)(nu m n j:Nat)(k v g:PV)(h:LF fr nu m k v n j)(h12:nth fr 12=g) :
  ∃ fr',aX (CC L) run kk 1 (ah 3 dz) ⟨fr,hp,wr⟩=some ⟨fr',hp,wr⟩∧LF fr' nu m k v n j∧nth fr' 12=g∧nth fr' 14=iI 0:=by
 obtain⟨h0,h4,h6,h7,h8,h9,h10⟩:=h
 simp[Tryz.f182,h0,h4,h6,h7,h8,h9,h10,h12]
theorem UQ (L:Lst)(run:ar)(kk:Nat)(fr:List PV)(hp:List Blk)(wr:List Nat)(nu m n j:Nat)(k v g b:PV)(h:LF fr nu m k v n j)(h12:nth fr 12=g)(h14:nth fr 14=b) :
  ∃ fr',af (CC L) run kk BS ⟨fr,hp,wr⟩=some (.normal,⟨fr',hp,wr⟩)∧LF fr' nu m k v n j∧nth fr' 12=g∧nth fr' 14=b∧nth fr' 123=iI n∧nth fr' 124=iI 0:=by
 obtain⟨h0,h4,h6,h7,h8,h9,h10⟩:=h
 simp[BS,Tryz.f182,h0,h4,h6,h7,h8,h9,h10,h12,h14]
theorem UP (L:Lst)(run:ar)(kk:Nat)(fr:List PV)(b1:Blk)(wr:List Nat)(c q:List Nat)(m n j p bo:Nat)(k v g:PV)(hc:Dok c)(hcl:c.length<1000001)(hp:p=j+n)(hpc:p<c.length)(hbo:bo<1000000000)(h:LF fr c.length m k v n j)(h12:nth fr 12=g)(h14:nth fr 14=iI bo) :
  ∃ fr',aX (CC L) run kk 1 (ah 5 dz) ⟨fr,hpL b1 c q,wr⟩=some ⟨fr',hpL b1 c q,wr⟩∧LF fr' c.length m k v n j∧nth fr' 12=g∧nth fr' 17 = .sc (.int .i64 ((at0 c p:Int) - (bo:Int))):=by
 obtain⟨h0,h4,h6,h7,h8,h9,h10⟩:=h
 have hd1:=de c p hpc
 have a1:=cF hc p
 generalize at0 c p=x at *
 have hwp:=dD .i64 j n p hp (hiI (by omega))
 have hw0:=cG .i64 x (hiI (by omega))
 have hwx:bE .i64 ((x:Int) - (bo:Int))=(x:Int) - (bo:Int):=fI _ (by omega) (by omega)
 simp[Tryz.f182,bg,partOf,h0,h4,h6,h7,h8,h9,h10,h12,h14,QB,u32,a32,dS,aV,aY,hpc,hd1,hwp,hw0,hwx]
theorem UO (L:Lst)(run:ar)(kk:Nat)(fr:List PV)(hp:List Blk)(wr:List Nat)(nu m n j:Nat)(k v g:PV)(z:Int)(h:LF fr nu m k v n j)(h12:nth fr 12=g)(h17:nth fr 17 = .sc (.int .i64 z)) :
  ∃ fr',af (CC L) run kk o0 ⟨fr,hp,wr⟩=some (.normal,⟨fr',hp,wr⟩)∧LF fr' nu m k v n j∧nth fr' 12=g∧nth fr' 17 = .sc (.int .i64 z)∧nth fr' 185 = .sc (.bool (decide (z<0))):=by
 obtain⟨h0,h4,h6,h7,h8,h9,h10⟩:=h
 simp[o0,Tryz.f182,h0,h4,h6,h7,h8,h9,h10,h12,h17]
theorem UN (L:Lst)(run:ar)(kk:Nat)(fr:List PV)(hp:List Blk)(wr:List Nat)(nu m n j g:Nat)(k v z:PV)(hg:g<999999999)(h:LF fr nu m k v n j)(h12:nth fr 12=iU (g+1))(h17:nth fr 17=z) :
  ∃ fr',aX (CC L) run kk 2 nj ⟨fr,hp,wr⟩=some ⟨fr',hp,wr⟩∧LF fr' nu m k v n j∧nth fr' 12=iU g∧nth fr' 17=z∧nth fr' 18 = .sc (.int .u32 (0:Nat)):=by
 obtain⟨h0,h4,h6,h7,h8,h9,h10⟩:=h
 obtain⟨g',hg'⟩:∃ g',g'=g+1:=⟨_,rfl⟩
 rw[← hg'] at h12
 have hw7:bE .u64 ((g':Int) - 1)=(g:Int):=by
  rw[show ((g':Int) - 1)=(g:Int) by omega];exact cG .u64 g (dK (by omega))
 simp[nj,Tryz.f182,cw,h0,h4,h6,h7,h8,h9,h10,h12,h17,hw7]
theorem UM (L:Lst)(run:ar)(kk:Nat)(fr:List PV)(hp:List Blk)(wr:List Nat)(nu m n j:Nat)(k v g z c:PV)(h:LF fr nu m k v n j)(h12:nth fr 12=g)(h17:nth fr 17=z)(h18:nth fr 18=c) :
  ∃ fr',af (CC L) run kk BR ⟨fr,hp,wr⟩=some (.normal,⟨fr',hp,wr⟩)∧LF fr' nu m k v n j∧nth fr' 12=g∧nth fr' 17=z∧nth fr' 18=c∧nth fr' 188=iI n∧nth fr' 189=iI 0:=by
 obtain⟨h0,h4,h6,h7,h8,h9,h10⟩:=h
 simp[BR,nj,Tryz.f182,cw,h0,h4,h6,h7,h8,h9,h10,h12,h17,h18]
theorem UL (L:Lst)(run:ar)(kk:Nat)(fr:List PV)(hp:List Blk)(wr:List Nat)(nu m n j c:Nat)(k v g:PV)(z:Int)(h:LF fr nu m k v n j)(h12:nth fr 12=g)(h17:nth fr 17 = .sc (.int .i64 z))(h18:nth fr 18 = .sc (.int .u32 (c:Int))) :
  ∃ fr',af (CC L) run kk (ah 3 nj) ⟨fr,hp,wr⟩=some (.normal,⟨fr',hp,wr⟩)∧LF fr' nu m k v n j∧nth fr' 12=g:=by
 obtain⟨h0,h4,h6,h7,h8,h9,h10⟩:=h
 simp[nj,Tryz.f182,cw,h0,h4,h6,h7,h8,h9,h10,h12,h17,h18,QB,u32,dS]
theorem UK (L:Lst)(run:ar)(kk:Nat)(fr:List PV)(b1:Blk)(wr:List Nat)(c q:List Nat)(n j p g:Nat)(k v:PV)(hcl:c.length<1000001)(hp:p=j+n)(hpc:p<c.length)(hjq:j<q.length)(hg:g<1000000000)(h:LF fr c.length q.length k v n j)(h12:nth fr 12=iU g) :
  ∃ fr' wr',af (CC L) run kk (ah 7 dz) ⟨fr,hpL b1 c q,wr⟩=some (.normal,⟨fr',hpL b1 (c.set p 0) (q.set j g),wr'⟩)∧LF fr' c.length q.length k v n j:=by
 obtain⟨h0,h4,h6,h7,h8,h9,h10⟩:=h
 have hwp:=dD .i64 j n p hp (hiI (by omega))
 have hw0:bE .u32 (g:Int)=(g:Int):=cG .u32 g (iZ (by omega))
 have hov:=jw c p 0 hpc
 have hov2:=jw q j g hjq
 have hz:PV.sc (.int .u32 0)=dg 0:=rfl
 simp[Tryz.f182,bg,bh,dE,gH,h0,h4,h6,h7,h8,h9,h10,h12,u32,u64,dS,aY,bZ,hpc,hjq,hwp,hw0,hov,hov2,il g,hz]
def LH (fr:List PV)(nu m:Nat)(k v:PV)(n J:Nat):Prop :=
 fr.length=239∧nth fr 4 = .own 2 1 0 m true∧nth fr 6=k∧nth fr 7 = .own 0 1 0 nu false∧nth fr 8=v∧nth fr 9=iI n∧nth fr 10 = .sc (.int .i64 ((J:Int) - 1))
theorem abq (L:Lst)(run:ar)(kk:Nat)(fr:List PV)(hp:List Blk)(wr:List Nat)(nu m n j:Nat)(k v:PV)(hj:j<1000001)(h:LF fr nu m k v n j) :
  ∃ fr',af (CC L) run kk (ah 2 eA) ⟨fr,hp,wr⟩=some (.normal,⟨fr',hp,wr⟩)∧LH fr' nu m k v n j:=by
 obtain⟨h0,h4,h6,h7,h8,h9,h10⟩:=h
 have hw:=cU j (by omega)
 simp[LH,Tryz.f182,h0,h4,h6,h7,h8,h9,h10,hw]
theorem Ii (L:Lst)(run:ar)(kk:Nat)(fr:List PV)(hp:List Blk)(wr:List Nat)(nu m n:Nat)(k v:PV)(h:LH fr nu m k v n 0) :
  ∃ fr',af (CC L) run kk eA ⟨fr,hp,wr⟩=some (.exit 0,⟨fr',hp,wr⟩)∧LH fr' nu m k v n 0:=by
 obtain⟨h0,h4,h6,h7,h8,h9,h10⟩:=h
 simp only[Int.natCast_zero,Int.zero_sub] at h10
 simp[LH,Tryz.f182,h0,h4,h6,h7,h8,h9,h10]
theorem Ih (L:Lst)(run:ar)(kk:Nat)(fr:List PV)(hp:List Blk)(wr:List Nat)(nu m n j:Nat)(k v:PV)(h:LH fr nu m k v n (j+1)) :
  ∃ fr',af (CC L) run kk (seq1 eA) ⟨fr,hp,wr⟩=some (.normal,⟨fr',hp,wr⟩)∧LF fr' nu m k v n j:=by
 obtain⟨h0,h4,h6,h7,h8,h9,h10⟩:=h
 rw[show (((j+1:Nat):Int) - 1)=(j:Int) by omega] at h10
 simp[Tryz.f182,h0,h4,h6,h7,h8,h9,h10]
theorem uE {C:Cfg}{run:ar}{k:Nat}{c:Operand}{a b:Code}{st:St}(h:aj st.fr c = .sc (.bool true)):af C run k (.cond c a b) st=af C run k a st:=by
 simp only[af,h]
theorem uF {C:Cfg}{run:ar}{k:Nat}{c:Operand}{a b:Code}{st:St}(h:aj st.fr c = .sc (.bool false)):af C run k (.cond c a b) st=af C run k b st:=by
 simp only[af,h]
theorem AM {C:Cfg}{run:ar}{k:Nat}{st:St} : af C run k .skip st=some (.normal,st):=by simp only[af]
theorem Ig (L:Lst)(run:ar)(kk:Nat)(fr:List PV)(b1:Blk)(wr:List Nat)(A nu m n mm j:Nat)(k:PV)(u v q:List Nat)(hv:Dok v)(hvl:v.length=n)(hmm:n=mm+2)(hul:u.length<1000001)(hnu:u.length=nu)(hkk:n+1≤kk)(hkk3:3≤kk)
  (h5:500000000≤at0 v (mm+1)) (hL:LI A (val v) n nu u q (j+1)) (hj:j+n<nu) (hq:q.length=m) (h:LH fr nu m k (.imm n false (v.map dg)) n (j+1)) :
  ∃ (fr':List PV) (wr' u' q':List Nat),af (CC L) run kk eA ⟨fr,hpL b1 u q,wr⟩=some (.normal,⟨fr',hpL b1 u' q',wr'⟩)∧LI A (val v) n nu u' q' j∧q'.length=m∧LH fr' nu m k (.imm n false (v.map dg)) n j:=by
 have hu:=hL.uok
 subst hnu
 have hVlt:val v<1000000000 ^ n:=by have:=fh hv;rwa [hvl] at this
 obtain⟨s1,s2,s3⟩:=hL.seg hVlt
 have hn3:n+1=mm+3:=by omega
 rw[hn3] at s3
 have hV0:0<val v:=by
  rw[qA v mm (by omega)]
  have:0<1000000000 ^ mm:=Nat.pow_pos (by omega)
  have:0<(at0 v (mm+1)*1000000000+at0 v mm)*1000000000 ^ mm:=Nat.mul_pos (by omega) this
  omega
 have htop:=OK hv (by omega) s3
 obtain⟨f1,p1,p2⟩:=Ih L run kk fr (hpL b1 u q) wr u.length m n j k _ h
 obtain⟨f2,q1,q2,q3,q4⟩:=abp L run kk f1 b1 wr u v q m n j (j+mm+2) (j+mm+1) (mm+1) _ _ k hu hv hvl hul (by omega) (by omega) (by omega) (by omega) rfl rfl (by omega) p2
 have hg9:=GI.le (v2:=0) (u2:=0) h5 htop
 have hu2:=cF hu (j+mm)
 obtain⟨f3,g,r1,r2,r3,r4⟩:=xN L run kk b1 wr u v q m n j (j+mm+2) (j+mm) (mm+1) mm _ _ _ _ k hu hv hvl hul (by omega) (by omega) (by omega) (by omega) (by omega) rfl rfl rfl htop h5 3 f2 _ _
  (Nat.lt_trans (Nat.mod_lt _ (by omega)) (cF hv (mm+1))) (by omega) hg9 (GI.init (by omega) hu2) q2 q3 q4
 have hgq:=OL hu hv (by omega) (by omega) s3 r4
 have hgB:=r4.1
 obtain⟨f4,t1,t2,t3,t4⟩:=UR L run kk f3 (hpL b1 u q) wr u.length m n j k _ _ r2 r3
 obtain⟨f5,w1,w2,w3,w4,w5,w6⟩:=UQ L run kk f4 (hpL b1 u q) wr u.length m n j k _ _ _ t2 t3 t4
 obtain⟨f6,wr6,c6,bo,x1,x2,x3,x4,x5⟩:=xM L run kk b1 u v q m n j g k hu hv hvl hul hj hgB n 0 f5 wr u 0 (by omega) (MS.init hu j g) w2 w3 w4 w5 w6
 have hc6:c6.length=u.length:=x5.len
 rw[← hc6] at x2
 have hbo:=x5.le
 obtain⟨f7,y1,y2,y3,y4⟩:=UP L run kk f6 b1 wr6 c6 q m n j (j+n) bo k _ _ x5.ok (by omega) rfl (by omega) (by omega) x2 x3 x4
 obtain⟨f8,z1,z2,z3,z4,z5⟩:=UO L run kk f7 (hpL b1 c6 q) wr6 c6.length m n j k _ _ _ y2 y3 y4
 have hat:at0 c6 (j+n)=at0 u (j+n):=x5.at
 have hsegu:val ((u.drop j).take (n+1))=at0 u (j+n)*1000000000 ^ n+val ((u.drop j).take n):=by rw[gP];omega
 have hdm:=Nat.div_add_mod (val ((u.drop j).take (n+1))) (val v)
 have hmod:=Nat.mod_lt (val ((u.drop j).take (n+1))) hV0
 have hms:=x5.eq
 rw[cL v n (by omega)] at hms
 have hR:=Bk x5.ok j n
 have hdB:val ((u.drop j).take (n+1)) / val v<1000000000:=by
  rw[hn3];exact Nat.div_lt_of_lt_mul s3
 rw[← hn3] at hgq
 have fin:∀ (f:List PV) (wrx c:List Nat),LF f c.length m k (.imm n false (v.map dg)) n j→nth f 12=iU (val ((u.drop j).take (n+1)) / val v)→c.length=u.length→Dok c→c.take j=u.take j→c.drop (j+n+1)=u.drop (j+n+1) →
   val ((c.drop j).take n)=val ((u.drop j).take (n+1)) % val v →
   ∃ (fr':List PV) (wr' u' q':List Nat),(match af (CC L) run kk (ah 7 dz) ⟨f,hpL b1 c q,wrx⟩ with | some (.normal,st')=>af (CC L) run kk (ah 2 eA) st' | r=>r)=some (.normal,⟨fr',hpL b1 u' q',wr'⟩)∧LI A (val v) n u.length u' q' j∧q'.length=m∧LH fr' u.length m k (.imm n false (v.map dg)) n j:=by
  intro f wrx c hf h12 hcl hok hlow hhigh hseg
  have hqj:j<q.length:=by have:=hL.ql;omega
  rw[← hq] at hf
  obtain⟨f9,wr9,a1,a2⟩:=UK L run kk f b1 wrx c q n j (j+n) _ k _ (by omega) rfl (by omega) hqj hdB hf h12
  obtain⟨f10,b1',b2⟩:=abq L run kk f9 (hpL b1 (c.set (j+n) 0) (q.set j (val ((u.drop j).take (n+1)) / val v))) wr9 c.length q.length n j k _ (by omega) a2
  refine⟨f10,wr9,c.set (j+n) 0,q.set j (val ((u.drop j).take (n+1)) / val v),?_,?_,by rw[length_set,hq],?_⟩
  ·rw[a1];exact b1'
  ·refine hL.next hVlt hV0 hj (by rw[length_set];exact hcl) (hok.set _ (by omega)) ?_ ?_ ?_ ?_ hdB
   ·rw[take_set_of_le (by omega),hlow]
   ·rw[drop_set_of_lt (by omega),hhigh]
   ·unfold at0;rw[getElem?_set_self (by omega)];rfl
   ·rw[← hseg]
    congr 1
    rw[drop_set,if_neg (by omega),take_set_of_le (by omega)]
  ·rw[← hcl,← hq];exact b2
 have hhigh6:c6.drop (j+n+1)=u.drop (j+n+1):=by
  rw[← drop_drop,x5.high,drop_drop]
 have hpre:∀ (f:List PV) (wrx c:List Nat),af (CC L) run kk (.seq o0 (.cond (.tmp 185) nj .skip)) ⟨f7,hpL b1 c6 q,wr6⟩=some (.normal,⟨f,hpL b1 c q,wrx⟩) →
   af (CC L) run kk eA ⟨fr,hpL b1 u q,wr⟩=match af (CC L) run kk (ah 7 dz) ⟨f,hpL b1 c q,wrx⟩ with | some (.normal,st')=>af (CC L) run kk (ah 2 eA) st' | some (.exit i,st')=>(if i=1 then af (CC L) run kk (ah 2 eA) st' else some (.exit i,st')) | r=>r:=by
  intro f wrx c hx
  have hB:af (CC L) run kk dz ⟨f1,hpL b1 u q,wr⟩=af (CC L) run kk (ah 7 dz) ⟨f,hpL b1 c q,wrx⟩:=by
   rw[aO 2 q1,OE,av (bN (ca r1 hkk3)),aO 1 t1,show ah 1 (ah 3 dz)=ah 4 dz from rfl,OD,
    av ((av w1).trans (bN (ca x1 hkk))),aO 1 y1,show ah 1 (ah 5 dz)=ah 6 dz from rfl,OC,av hx]
  rw[UX,av p1]
  simp only[af,hB]
  cases af (CC L) run kk (ah 7 dz) ⟨f,hpL b1 c q,wrx⟩ with
  | none=>rfl
  | some r =>
   obtain⟨e,st⟩:=r
   cases e with
   | exit i =>
    by_cases hi:i=1
    ·subst hi;rfl
    ·simp[hi]
   | _=>rfl
 by_cases hneg:at0 u (j+n)<bo
 ·
  rw[hat] at z5 z4
  have hz5:decide (((at0 u (j+n):Nat):Int) - (bo:Int)<0)=true:=decide_eq_true (by omega)
  rw[hz5] at z5
  have hgd:g=val ((u.drop j).take (n+1)) / val v+1:=by
   rcases hgq with h' | h'
   ·exfalso
    have:=Eu (un:=at0 u (j+n)) hR (Nat.lt_trans hmod hVlt) hms (by rw[h',Nat.mul_comm _ (val v),hdm];exact hsegu.symm)
    omega
   ·exact h'
  obtain⟨e1,e2⟩:=KQ (un:=at0 u (j+n)) (q:=val ((u.drop j).take (n+1)) / val v) hR hmod hVlt (by rw[← hgd];exact hms) (by rw[Nat.mul_comm _ (val v),hdm];exact hsegu.symm)
  rw[hgd] at z3
  rw[hgd] at hgB
  obtain⟨f9,a1,a2,a3,a4,a5⟩:=UN L run kk f8 (hpL b1 c6 q) wr6 c6.length m n j _ k _ _ (by omega) z2 z3 z4
  obtain⟨f10,b1',b2,b3,b4,b5,b6,b7⟩:=UM L run kk f9 (hpL b1 c6 q) wr6 c6.length m n j k _ _ _ _ a2 a3 a4 a5
  obtain⟨f11,wr11,c11,cy,d1,d2,d3,d4,d5,d6⟩:=xO L run kk b1 c6 v q m n j k _ _ x5.ok hv hvl (by omega) (by omega) n 0 f10 wr6 c6 0 (by omega) (AB.init x5.ok j) b2 b3 b4 b5 b6 b7
  obtain⟨f12,g1,g2,g3⟩:=UL L run kk f11 (hpL b1 c11 q) wr11 c6.length m n j cy k _ _ _ d2 d3 d4 d5
  have hc11:c11.length=c6.length:=d6.len
  have hx:af (CC L) run kk (.seq o0 (.cond (.tmp 185) nj .skip)) ⟨f7,hpL b1 c6 q,wr6⟩=some (.normal,⟨f12,hpL b1 c11 q,wr11⟩):=by
   rw[av z1,uE (by simpa [aj] using z5),aO 2 a1,UW,av ((av b1').trans (bN (ca d1 hkk)))]
   exact g1
  have hab:=d6.eq
  rw[cL v n (by omega)] at hab
  obtain⟨fr',wr',u',q',k1,k2⟩:=fin f12 wr11 c11 (by rw[hc11];exact g2) g3 (by omega) d6.ok (by rw[d6.low,x5.low]) (by rw[← hhigh6,← drop_drop,d6.high,drop_drop]) (agP (Bk d6.ok j n) hmod hVlt e2 hab d6.le)
  refine⟨fr',wr',u',q',?_,k2⟩
  rw[hpre f12 wr11 c11 hx]
  revert k1
  cases af (CC L) run kk (ah 7 dz) ⟨f12,hpL b1 c11 q,wr11⟩ with
  | none=>intro k1;exact k1
  | some r =>
   obtain⟨e,st⟩:=r
   cases e <;> simp
 ·rw[hat] at z5 z4
  have hz5:decide (((at0 u (j+n):Nat):Int) - (bo:Int)<0)=false:=decide_eq_false (by omega)
  rw[hz5] at z5
  have hgd:g=val ((u.drop j).take (n+1)) / val v∧val ((c6.drop j).take n)=val ((u.drop j).take (n+1)) % val v:=by
   rcases hgq with h' | h'
   ·have:=Eu (un:=at0 u (j+n)) hR (Nat.lt_trans hmod hVlt) hms (by rw[h',Nat.mul_comm _ (val v),hdm];exact hsegu.symm)
    exact⟨h',this.2⟩
   ·exfalso
    obtain⟨e1,e2⟩:=KQ (un:=at0 u (j+n)) (q:=val ((u.drop j).take (n+1)) / val v) hR hmod hVlt (by rw[← h'];exact hms) (by rw[Nat.mul_comm _ (val v),hdm];exact hsegu.symm)
    omega
  rw[hgd.1] at z3
  have hx:af (CC L) run kk (.seq o0 (.cond (.tmp 185) nj .skip)) ⟨f7,hpL b1 c6 q,wr6⟩=some (.normal,⟨f8,hpL b1 c6 q,wr6⟩):=by
   rw[av z1,uF (by simpa [aj] using z5),AM]
  obtain⟨fr',wr',u',q',k1,k2⟩:=fin f8 wr6 c6 z2 z3 hc6 x5.ok x5.low hhigh6 hgd.2
  refine⟨fr',wr',u',q',?_,k2⟩
  rw[hpre f8 wr6 c6 hx]
  revert k1
  cases af (CC L) run kk (ah 7 dz) ⟨f8,hpL b1 c6 q,wr6⟩ with
  | none=>intro k1;exact k1
  | some r =>
   obtain⟨e,st⟩:=r
   cases e <;> simp
theorem Ay (L:Lst)(run:ar)(kk:Nat)(b1:Blk)(A nu m n mm:Nat)(k:PV)(v:List Nat)(hv:Dok v)(hvl:v.length=n)(hmm:n=mm+2)(hul:nu<1000001)(hkk:n+1≤kk)(hkk3:3≤kk)(h5:500000000≤at0 v (mm+1)) :
  ∀ (J:Nat) (fr:List PV) (wr u q:List Nat),LI A (val v) n nu u q J→J+n≤nu→q.length=m→LH fr nu m k (.imm n false (v.map dg)) n J →
  ∃ (fr':List PV) (wr' u' q':List Nat),cu (af (CC L) run kk eA) (J+1) ⟨fr,hpL b1 u q,wr⟩=some (.exit 0,⟨fr',hpL b1 u' q',wr'⟩)∧LI A (val v) n nu u' q' 0∧q'.length=m∧LH fr' nu m k (.imm n false (v.map dg)) n 0
 | 0,fr,wr,u,q,hL,hJ,hq,h=>by
  obtain⟨fr',g1,g2⟩:=Ii L run kk fr (hpL b1 u q) wr nu m n k _ h
  exact⟨fr',wr,u,q,bD g1,hL,hq,g2⟩
 | j+1,fr,wr,u,q,hL,hJ,hq,h=>by
  obtain⟨fr1,wr1,u1,q1,g1,g2,g3,g4⟩:=Ig L run kk fr b1 wr A nu m n mm j k u v q hv hvl hmm (by rw[hL.ul];exact hul) hL.ul hkk hkk3 h5 hL (by omega) hq h
  obtain⟨fr',wr',u',q',r1,r2⟩:=Ay L run kk b1 A nu m n mm k v hv hvl hmm hul hkk hkk3 h5 j fr1 wr1 u1 q1 g2 (by omega) g3 g4
  exact⟨fr',wr',u',q',by rw[ct g1];exact r1,r2⟩
theorem wm {hp:List Blk}{id:Nat}{l:List Nat}(h:aY hp id=some ⟨.live,l.map dg⟩)(n:Nat)(x:Bool)(hn:n≤l.length)(d:Nat) :
  Ab.snap hp (d+2) (.own id 1 0 n x)=some (.imm n x ((l.take n).map dg),[id]):=by
 rw[Ab.snap]
 simp only[h]
 rw[if_neg (by simp)]
 have:bF (br (l.map dg) 0) (n*1)=some ((l.take n).map dg):=by
  rw[cA,drop_zero,Nat.mul_one,dh (by simpa using hn),map_take]
 rw[this]
 simp only[kn hp d]
theorem A0 (n:Nat)(x:Bool)(l:List Nat)(h:l.length=n):canon (.imm n x (l.map dg))=aQ l:=by
 rw[canon,jo,aQ,h]
def LK:Lst:=[(167,jB),(181,nF)]
theorem aiZ:dw base.P LK:=⟨jf,wx,trivial⟩
theorem aaw:bu LK 167=fun a=>jB (aJ a):=rfl
theorem TS:bu LK 181=fun a=>nF (aJ a):=rfl
theorem Oc:bu LK 190=fun _=>none:=rfl
theorem ace {hp:List Blk}{id n:Nat}{x:Bool}{l:List Nat}(h:aY hp id=some ⟨.live,l.map dg⟩) :
  eh hp [] [] [] [.own id 1 0 n x]=some ([.own 0 1 0 n x],[⟨.live,l.map dg⟩]):=by
 have:=kn hp 11 l
 simp only[eh,h,bn,this]
 simp
theorem Pg {C:Cfg}{run:ar}{dr:Bool}{hp hp1:List Blk}{g:FuncId}{args args':List PV}{wr:List Nat}{n:Nat}{l:List Nat}{rs:List PV}
  (h1:C.shared g=false) (h2:bq (Ab.snap hp bn) args=some (args',[])) (h3:C.orc g args'=none) (h4:run g args' []=some (rs,hp1,wr))
  (h5:eh hp1 [] [] [] rs=some ([.own 0 1 0 n false],[⟨.live,l.map dg⟩])) :
  bX C run dr hp g args=some (.own hp.length 1 0 n false,hp++[⟨.live,l.map dg⟩],⟨[],[hp.length],true,false⟩):=by
 unfold bX
 simp[h1,h2,h3,h4,h5,eE,jk,so,roB,upto]
theorem rV (K:Nat)(dr:Bool)(hp:List Blk)(a:List Nat)(b:Nat)(ha:Dok a)(hb:b<1000000000)(hl:a.length<1000000)(hk:a.length<K) :
  bX (CC LK) (runK (CC LK) (K+1)) dr hp 190 [aQ a,dg b]=some (.own hp.length 1 0 (a.length+1) false,hp++[⟨.live,(di (a.length+1) (val a*b)).map dg⟩],⟨[],[hp.length],true,false⟩):=by
 obtain⟨hp1,wr,id,h1,h2⟩:=GU LK (fun _=>rfl) a b K ha hb hl hk
 have e1:(CC LK).shared 190=false:=Mw
 have e2:bq (Ab.snap hp bn) [aQ a,dg b]=some ([aQ a,dg b],[]):=rfl
 have e3:(CC LK).orc 190 [aQ a,dg b]=none:=by
  show bu LK 190 [aQ a,dg b]=none
  rw[Oc]
 exact Pg e1 e2 e3 h1 (ace h2)
theorem IX (run:ar)(dr:Bool)(hp:List Blk)(id n:Nat)(l:List Nat)(hl:Dok l)(hn:l.length=n)(hn2:n<1000000)(h:aY hp id=some ⟨.live,l.map dg⟩) :
  bX (CC LK) run dr hp 167 [.own id 1 0 n false]=some (aQ (aK (val l)),roB hp [id],⟨[id],[id],false,false⟩):=by
 subst hn
 have h1:=wm h l.length false (Nat.le_refl _) 10
 rw[take_length] at h1
 have h4:bq (Ab.snap hp bn) [.own id 1 0 l.length false]=some ([.imm l.length false (l.map dg)],[id]):=by
  show bq (Ab.snap hp 12) _=_
  simp only[bq,h1]
  rfl
 have h3:(CC LK).orc 167 [.imm l.length false (l.map dg)]=some [aQ (aK (val l))]:=by
  show bu LK 167 [.imm l.length false (l.map dg)]=_
  rw[aaw]
  simp only[aJ,A0 l.length false l rfl,jB,dc hl hn2,eX hl]
 exact eJ vr h4 h3 rfl
theorem Fw (run:ar)(dr:Bool)(hp:List Blk)(id n b:Nat)(l:List Nat)(hl:Dok l)(hn:n≤l.length)(hn2:n<1000000)(hb:0<b)(hb2:b<1000000000)(h:aY hp id=some ⟨.live,l.map dg⟩) :
  bX (CC LK) run dr hp 181 [.own id 1 0 n false,dg b]=some (.tup [aQ (di n (val (l.take n) / b)),dg (val (l.take n) % b)],roB hp [id],⟨[id],[id],false,false⟩):=by
 obtain⟨b,rfl⟩:∃ c,b=c+1:=⟨b - 1,by omega⟩
 have h1:=wm h n false hn 10
 have ht:(l.take n).length=n:=by rw[length_take];omega
 have h4:bq (Ab.snap hp bn) [.own id 1 0 n false,dg (b+1)]=some ([.imm n false ((l.take n).map dg),dg (b+1)],[id]):=by
  show bq (Ab.snap hp 12) _=_
  simp only[bq,h1]
  rfl
 have h3:(CC LK).orc 181 [.imm n false ((l.take n).map dg),dg (b+1)]=some [aQ (di n (val (l.take n) / (b+1))),dg (val (l.take n) % (b+1))]:=by
  show bu LK 181 [.imm n false ((l.take n).map dg),dg (b+1)]=_
  rw[TS]
  have e:aJ [.imm n false ((l.take n).map dg),dg (b+1)]=[aQ (l.take n),dg (b+1)]:=by
   simp only[aJ,A0 n false (l.take n) ht];rfl
  simp only[e,nF,dc (hl.take n) (by omega),Wo hb2,ht]
 exact eJ C3 h4 h3 rfl
theorem Ou (L:Lst)(run:ar)(kk:Nat)(p q:PV) :
  ∃ fr wr,aX (CC L) run kk 1 ir ⟨entry 239 [p,q],[],[]⟩=some ⟨fr,[],wr⟩∧fr.length=239∧nth fr 0=p∧nth fr 1=q:=by
 obtain⟨e1,e2,e3⟩:=cn 237 p q
 generalize entry 239 [p,q]=fr0 at *
 simp[Tryz.f182,e1,e2,e3]
theorem Ot (L:Lst)(run:ar)(kk:Nat)(fr0:List PV)(wr0:List Nat)(a b:List Nat)(n1 t s k:Nat)(hb:Dok b)(hl:b.length<1000000)(hn:b.length=n1+1)(ht:t=at0 b n1)(hs:s=t+1)(hk:k=1000000000 / s)(e1:fr0.length=239)(e2:nth fr0 0=aQ a)(e3:nth fr0 1=aQ b) :
  ∃ fr wr,aX (CC L) run kk 1 (ah 1 ir) ⟨fr0,[],wr0⟩=some ⟨fr,[],wr⟩∧fr.length=239∧nth fr 0=aQ a∧nth fr 1=aQ b∧nth fr 6=dg k:=by
 have hk2:k≤1000000000:=by rw[hk];exact Nat.div_le_self _ _
 have hq:Int.tdiv 1000000000 (s:Int)=(k:Int):=by rw[hk];exact (Int.ofNat_tdiv 1000000000 s).symm
 clear hk
 have hnb:n1<b.length:=by omega
 have hd:=de b n1 hnb
 have a1:=cF hb n1
 rw[← ht] at hd a1
 have hwn:bE .i64 ((b.length:Int) - 1)=(n1:Int):=by rw[cU b.length (by omega)];omega
 have hw0:=cG .u64 t (dK (by omega))
 have hw1:bE .u64 ((t:Int)+1)=(s:Int):=by
  rw[show ((t:Int)+1)=(s:Int) by omega];exact cG .u64 s (dK (by omega))
 have hw2:=cG .u64 k (dK (Nat.le_trans hk2 (by decide)))
 have hw3:bE .u32 (k:Int)=(k:Int):=cG .u32 k (iZ (Nat.le_trans hk2 (by decide)))
 have hs0 : ¬ (s=0):=by rw[hs];exact Nat.succ_ne_zero t
 have e4:aQ b = .imm b.length false (b.map dg):=rfl
 rw[e4] at e3 ⊢
 clear hs ht
 simp[Tryz.f182,e1,e2,e3,bO,bg,partOf,cX,u32,u64,a32,dS,aV,hnb,hd,hwn,hw0,hw1,hq,hw2,hw3,hs0,il k]
theorem Oq (run:ar)(kk:Nat)(fr0:List PV)(wr0:List Nat)(a b v U V:List Nat)(k:Nat)(fp1 fp2 fp3:FP)(n1 n2:Nat)(h239:fr0.length=239)(h0:nth fr0 0=aQ a)(h1:nth fr0 1=aQ b)(h6:nth fr0 6=dg k)
  (hc1:bX (CC LK) run false [] 190 [aQ a,dg k]=some (.own 0 1 0 n1 false,[⟨.live,U.map dg⟩],fp1))
  (hc2:bX (CC LK) run false [⟨.live,U.map dg⟩] 190 [aQ b,dg k]=some (.own 1 1 0 n2 false,[⟨.live,U.map dg⟩,⟨.live,V.map dg⟩],fp2))
  (hc3:bX (CC LK) run false [⟨.live,U.map dg⟩,⟨.live,V.map dg⟩] 167 [.own 1 1 0 n2 false]=some (aQ v,[⟨.live,U.map dg⟩,⟨.ro,V.map dg⟩],fp3)) :
  ∃ fr wr,aX (CC LK) run kk 1 (ah 2 ir) ⟨fr0,[],wr0⟩=some ⟨fr,[⟨.live,U.map dg⟩,⟨.ro,V.map dg⟩],wr⟩∧fr.length=239∧nth fr 6=dg k∧nth fr 7 = .own 0 1 0 n1 false∧nth fr 8=aQ v:=by
 simp[Tryz.f182,h239,h0,h1,h6,aL,hc1,hc2,hc3]
def Ij:Code:=seq1 (seq1 (ah 5 ir))
theorem OB:ah 5 ir = .seq (.seq Ij (.block 0 (.loop eA))) (ah 6 ir):=rfl
theorem Oo (L:Lst)(run:ar)(kk:Nat)(fr0:List PV)(wr0:List Nat)(U V v:List Nat)(k:PV)(nu m:Nat)(hul:nu<1000001)(hm:nu=v.length+m)(h239:fr0.length=239)(h6:nth fr0 6=k)(h7:nth fr0 7 = .own 0 1 0 nu false)(h8:nth fr0 8=aQ v) :
  ∃ fr wr,aX (CC L) run kk 2 (ah 3 ir) ⟨fr0,[⟨.live,U.map dg⟩,⟨.ro,V.map dg⟩],wr0⟩=some ⟨fr,hpL ⟨.ro,V.map dg⟩ U (List.replicate m 0),wr⟩∧fr.length=239∧nth fr 4 = .own 2 1 0 m true∧nth fr 6=k∧nth fr 7 = .own 0 1 0 nu false∧nth fr 8=aQ v∧nth fr 9=iI v.length:=by
 have hw:bE .i64 ((nu:Int) - (v.length:Int))=(m:Int):=zf .i64 nu v.length m hm (hiI (by omega))
 have h1:m≤cS:=Nat.le_trans (show m≤1000000 by omega) (by decide)
 have e4:aQ v = .imm v.length false (v.map dg):=rfl
 have hr:hpL ⟨.ro,V.map dg⟩ U (List.replicate m 0)=[⟨.live,U.map dg⟩,⟨.ro,V.map dg⟩,⟨.live,rep m [dg 0]⟩]:=by rw[sF]
 rw[hr]
 rw[e4] at h8 ⊢
 simp[Tryz.f182,h239,h6,h7,h8,bO,cX,gW,b32,z32,aM,cg,hw,h1]
theorem abr (L:Lst)(run:ar)(kk:Nat)(fr0:List PV)(hp:List Blk)(wr0:List Nat)(v:List Nat)(k:PV)(nu m n:Nat)(hul:nu<1000001)(hm:nu=n+m)(hvl:v.length=n)(h239:fr0.length=239)(h4:nth fr0 4 = .own 2 1 0 m true)(h6:nth fr0 6=k)(h7:nth fr0 7 = .own 0 1 0 nu false)(h8:nth fr0 8=aQ v)(h9:nth fr0 9=iI v.length) :
  ∃ fr,af (CC L) run kk Ij ⟨fr0,hp,wr0⟩=some (.normal,⟨fr,hp,wr0⟩)∧LH fr nu m k (.imm n false (v.map dg)) n m:=by
 subst hvl
 have hw:bE .i64 ((nu:Int) - (v.length:Int))=(m:Int):=zf .i64 nu v.length m hm (hiI (by omega))
 have hw2:=cU m (by omega)
 have e4:aQ v = .imm v.length false (v.map dg):=rfl
 rw[e4] at h8
 simp[LH,Ij,Tryz.f182,h239,h4,h6,h7,h8,h9,bO,gW,hw,hw2]
theorem Ov (run:ar)(kk:Nat)(fr0:List PV)(wr0:List Nat)(U q:List Nat)(b1:Blk)(k nu m n J:Nat)(v x y:PV)(fp:FP)(hnu:n≤nu)(h:LH fr0 nu m (dg k) v n J)
  (hc:bX (CC LK) run false (hpL b1 U q) 181 [.own 0 1 0 n false,dg k]=some (.tup [x,y],[⟨.ro,U.map dg⟩,b1,⟨.live,q.map dg⟩],fp)) :
  ∃ st,af (CC LK) run kk (ah 6 ir) ⟨fr0,hpL b1 U q,wr0⟩=some (.ret,st)∧aU TT st.fr st.hp Tryz.f182.results.toList=some [.own 2 1 0 m true,x]∧st.hp=[⟨.ro,U.map dg⟩,b1,⟨.live,q.map dg⟩]:=by
 obtain⟨h0,h4,h6,h7,h8,h9,h10⟩:=h
 simp[Tryz.f182,h0,h4,h6,h7,h9,aL,dq,gQ,bnd,fk,gE,hnu,hc,aU]
def EG:List PV→Option (List PV)
 | [p,q]=>match iw p,iw q with
  | some a,some b=>bif vc b && Nat.ble 2 b.length && Nat.ble b.length a.length && Nat.ble a.length 900000 then some [aQ (di (a.length+1 - b.length) (val a / val b)),aQ (di b.length (val a % val b))] else none
  | _,_=>none
 | _=>none
end Go.Proofs.YtjdmodeenbdfpaaGreat
end
