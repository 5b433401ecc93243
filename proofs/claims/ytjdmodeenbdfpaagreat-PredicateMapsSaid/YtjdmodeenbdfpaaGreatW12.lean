/- Contracts of num's integers, part 12; each lemma states its conditions. -/
import Derived.Test.YtjdmodeenbdfpaaGreatW11
set_option linter.unusedSimpArgs false
set_option linter.unusedVariables false
noncomputable section
namespace Go.Proofs.YtjdmodeenbdfpaaGreat
open Go Go.Ab List Tryz
attribute [local simp] FzZ aA aC aF aG aH aX aZ aa ab ae af ag ah ai aj an ao aq au av bf bg partOf uD
variable(L:Lst)(run:aw)(k:Nat)(fr:Ψ)(hp:Ω)(wr:Θ)
def L2:Lst:=[(149,sT),(139,tr)]
theorem ajf:dt base.P L2:=⟨nM,ou,trivial⟩
theorem aeH:bt L2 149=fun a=>sT (aJ a):=rfl
theorem aeI:bt L2 139=fun a=>tr (aJ a):=rfl
theorem Sm.neg {z:Int}(h:Sm z):Sm (-z):=by unfold Sm at *;rwa [Int.natAbs_neg]
theorem WX (run:aw)(dr:Bool)(hp:Θ)(x:Int)(hx:Sm x):bU (CC L2) run dr hp 149 [br x]=some (br (-x),hp,⟨[],[],false,false⟩) :=
 bu GZ aeH run dr hp _ [br (-x)] (mQ hp x) (jU x) (by simp only[sT,cJ hx])
theorem WY (run:aw)(dr:Bool)(hp:Θ)(x y:Int)(hx:Sm x)(hy:Sm y):bU (CC L2) run dr hp 139 [br x,br y]=some (br (x+y),hp,⟨[],[],false,false⟩) :=
 bu G2 aeI run dr hp _ [br (x+y)] (gI hp x y) (fv x y) (by simp only[tr,cJ hx,cJ hy])
def ahs:Code:=f168.body.getD .skip
theorem QW(x y:Int)(hx:Sm x)(hy:Sm y) :
  ∃ st,af (CC L2) run k ahs ⟨entry 9 [br x,br y],[],[]⟩=some (.ret,st)∧bc TT st.fr st.hp f168.results.toList=some [br (x - y)]:=by
 have hc1:=fun hp dr=>WX run dr hp y hy
 have hc2:=fun hp dr=>WY run dr hp x (-y) hx hy.neg
 rw[← Int.sub_eq_add_neg] at hc2
 obtain⟨e1,e2,e3⟩:=cC 7 (br x) (br y)
 generalize entry 9 [br x,br y]=fr0 at *
 simp only[whW] at hc1 hc2 e2 e3 ⊢
 generalize aK (-y).natAbs=ry at *
 generalize bw (-y)=ny at *
 generalize aK (x - y).natAbs=rz at *
 generalize bw (x - y)=nz at *
 generalize aK x.natAbs=rx at *
 generalize bw x=nx at *
 generalize aK y.natAbs=rw at *
 generalize bw y=nw at *
 simp[ahs,f168,e1,e2,e3,aM,bm,bX,bH,bd,hc1,hc2,sW,aW,zW,aL,aP,bZ,cm,bD,bq,bc,number,FP.free,cD,FP.apart]
def Gy:Ψ→Option Ψ
 | [p,q]=>match fM p,fM q with
  | some x,some y=>some [br (x - y)]
  | _,_=>none
 | _=>none
theorem vT:Ab.Spec base.P 168 Gy:=Ab.Spec.bN (C:=CC L2) (cP ajf) fun args rs h=>by
 unfold Gy at h
 split at h
 ·split at h
  ·rename_i x y ex ey
   obtain⟨rfl,hx⟩:=eh ex
   obtain⟨rfl,hy⟩:=eh ey
   simp only[OiE] at h
   subst h
   obtain⟨st,e1,e2⟩:=QW (runK (CC L2) 1) 1 x y hx hy
   exact⟨2,_,_,_,_,_,aV XQ rfl e1 e2,jB _ _,Wk.refl rfl,trivial⟩
  ·cases h
 ·cases h
def IV:Code:=f96.body.getD .skip
theorem Pa(n:Bool)(a b:Ω) :
  ∃ st,af (CC L) run k IV ⟨entry 26 [wh n a,wh (!n) b],[],[]⟩=some (.ret,st)∧bc TT st.fr st.hp f96.results.toList=some [Ab.bJ (bif n then -1 else 1)]:=by
 obtain⟨e1,e2,e3⟩:=cC 24 (wh n a) (wh (!n) b)
 generalize entry 26 [wh n a,wh (!n) b]=fr0 at *
 have e4:∀ n l,wh n l = .agg [.sc (.bool n),aO l]:=fun _ _=>rfl
 rw[e4] at e2 e3
 cases n
 ·simp[IV,f96,e1,e2,e3,dP,bP,bm,uB,uW,sB,aB,wf0,wf1,aL,aP,bq,bc,Ab.bJ]
 ·simp[IV,f96,e1,e2,e3,dP,bP,bm,uB,uW,sB,aB,wf0,wf1,aL,aP,bq,bc,Ab.bJ]
theorem O9(n:Bool)(x y:Nat)(hla:(aK x).length<400000)(hlb:(aK y).length<400000) :
  ∃ st,af (CC L1) run k IV ⟨entry 26 [wh n (aK x),wh n (aK y)],[],[]⟩=some (.ret,st)∧bc TT st.fr st.hp f96.results.toList=some [Ab.bJ (bif n then dZ y x else dZ x y)]:=by
 have hc0:=fun hp dr=>o0 run dr hp (aK x) (aK y) (bS _) (by omega) (bS _) (by omega)
 have hc1:=fun hp dr=>o0 run dr hp (aK y) (aK x) (bS _) (by omega) (bS _) (by omega)
 rw[mc] at hc0 hc1
 obtain⟨e1,e2,e3⟩:=cC 24 (wh n (aK x)) (wh n (aK y))
 generalize entry 26 [wh n (aK x),wh n (aK y)]=fr0 at *
 have e4:∀ n l,wh n l = .agg [.sc (.bool n),aO l]:=fun _ _=>rfl
 rw[e4] at e2 e3
 simp only[Ab.bJ] at hc0 hc1
 generalize dZ x y=cc at *
 generalize dZ y x=dd at *
 cases n
 ·simp[IV,f96,e1,e2,e3,aM,dP,bP,bm,hc0,uB,uW,sD,sB,aD,aB,wf0,wf1,aL,aP,bq,bc,Ab.bJ]
 ·simp[IV,f96,e1,e2,e3,aM,dP,bP,bm,hc1,uB,uW,sD,sB,aD,aB,wf0,wf1,aL,aP,bq,bc,Ab.bJ]
def fP (x y:Int):Int:=if x<y then -1 else if x=y then 0 else 1
theorem WH(x y:Int)(hx:Sm x)(hy:Sm y) :
  ∃ st,af (CC L1) run k IV ⟨entry 26 [br x,br y],[],[]⟩=some (.ret,st)∧bc TT st.fr st.hp f96.results.toList=some [Ab.bJ (fP x y)]:=by
 by_cases hn:bw x=bw y
 ·have:=O9 run k (bw x) x.natAbs y.natAbs hx hy
  have e:(bif bw x then dZ y.natAbs x.natAbs else dZ x.natAbs y.natAbs)=fP x y:=by
   rw[cK,cK] at hn
   rw[cK]
   unfold fP dZ
   by_cases hx:x<0 <;> by_cases hy:y<0 <;> simp[hx,hy] at hn ⊢
   ·by_cases h1:x<y
    ·rw[if_pos (by omega),if_pos h1]
    ·rw[if_neg (by omega),if_neg h1]
     by_cases h2:x=y
     ·rw[if_pos (by omega),if_pos h2]
     ·rw[if_neg (by omega),if_neg h2]
   ·by_cases h1:x<y
    ·rw[if_pos (by omega),if_pos h1]
    ·rw[if_neg (by omega),if_neg h1]
     by_cases h2:x=y
     ·rw[if_pos (by omega),if_pos h2]
     ·rw[if_neg (by omega),if_neg h2]
  rw[e] at this
  simp only[br]
  rw[← hn];exact this
 ·have hn':bw y = !bw x:=by
   revert hn;cases bw x <;> cases bw y <;> simp
  have:=Pa L1 run k (bw x) (aK x.natAbs) (aK y.natAbs)
  have e:(bif bw x then (-1:Int) else 1)=fP x y:=by
   rw[cK,cK] at hn
   rw[cK]
   unfold fP
   by_cases hx:x<0 <;> by_cases hy:y<0 <;> simp[hx,hy] at hn ⊢
   ·intro h;omega
   ·rw[if_neg (by omega),if_neg (by omega)]
  rw[e] at this
  simp only[br]
  rw[hn'];exact this
def rN:Ψ→Option Ψ
 | [p,q]=>match fM p,fM q with
  | some x,some y=>some [Ab.bJ (fP x y)]
  | _,_=>none
 | _=>none
theorem og:Ab.Spec base.P 96 rN:=Ab.Spec.bN (C:=CC L1) (cP LO) fun args rs h=>by
 unfold rN at h
 split at h
 ·split at h
  ·rename_i x y ex ey
   obtain⟨rfl,hx⟩:=eh ex
   obtain⟨rfl,hy⟩:=eh ey
   simp only[OiE] at h
   subst h
   obtain⟨st,e1,e2⟩:=WH (runK (CC L1) 1) 1 x y hx hy
   exact⟨2,_,_,_,_,_,aV XV rfl e1 e2,eL _ _,Wk.refl rfl,trivial⟩
  ·cases h
 ·cases h
def mulC:Code:=f105.body.getD .skip
def nN:Code:=((f105.body).bind aA).getD .skip
def Og:Code:=(aA nN).getD .skip
abbrev hpM (b0 b1 b2:Blk)(out:Ω):Θ:=[b0,b1,b2,⟨.live,out.map dg⟩]
theorem UH (L:Lst)(run:aw)(k:Nat)(fr:Ψ)(hp:Θ)(wr:Ω)(n:Nat)(h78:fr.length=78)(h29:nth fr 29 = .sc (.int .i64 (n:Int)))(h30:nth fr 30 = .sc (.int .i64 (n:Int))) :
  ∃ fr',af (CC L) run k Og ⟨fr,hp,wr⟩=some (.exit 2,⟨fr',hp,wr⟩)∧fr'.length=78∧nth fr' 2=nth fr 2∧nth fr' 3=nth fr 3∧nth fr' 4=nth fr 4∧nth fr' 5=nth fr 5∧nth fr' 6=nth fr 6∧nth fr' 8=nth fr 8∧nth fr' 20=nth fr 20∧nth fr' 21=nth fr 21∧nth fr' 22=nth fr 22:=by
 simp[Og,nN,f105,h78,h29,h30]
set_option maxHeartbeats 4000000 in
theorem H5 (L:Lst)(run:aw)(k:Nat)(fr:Ψ)(b0 b1 b2:Blk)(wr:Ω)(b out:Ω)(i j c x q r:Nat)(hb:Dok b)(ho:Dok out)(hx:x<1000000000)(hc:c<1000000000)(hj:j<b.length)(hij:i+j<out.length)(hl:out.length<1000000)
  (h78:fr.length=78) (h5:nth fr 5 = .own 3 1 0 out.length true) (h6:nth fr 6 = .sc (.int .i64 (i:Int))) (h7:nth fr 7 = .sc (.int .u32 (x:Int))) (h8:nth fr 8 = .sc (.int .u64 (c:Int)))
  (h28:nth fr 28=aO b) (h29:nth fr 29 = .sc (.int .i64 (b.length:Int))) (h30:nth fr 30 = .sc (.int .i64 (j:Int))) (hr:r=(c+(x*at0 b j+at0 out (i+j))) % 1000000000) (hq:q=(c+(x*at0 b j+at0 out (i+j))) / 1000000000) :
  ∃ fr' wr',af (CC L) run k Og ⟨fr,hpM b0 b1 b2 out,wr⟩=some (.normal,⟨fr',hpM b0 b1 b2 (out.set (i+j) r),wr'⟩)∧fr'.length=78∧nth fr' 8 = .sc (.int .u64 (q:Int))∧nth fr' 30 = .sc (.int .i64 ((j+1:Nat):Int))
   ∧ nth fr' 2=nth fr 2∧nth fr' 3=nth fr 3∧nth fr' 4=nth fr 4∧nth fr' 5=nth fr 5∧nth fr' 6=nth fr 6∧nth fr' 7=nth fr 7∧nth fr' 20=nth fr 20∧nth fr' 21=nth fr 21∧nth fr' 22=nth fr 22∧nth fr' 28=nth fr 28∧nth fr' 29=nth fr 29:=by
 have hdb:=eQ b j hj
 have hdo:=eQ out (i+j) hij
 have hby:=hb.get hj
 have hoy:=ho.get hij
 have hov:=jn out (i+j) r hij
 rw[df hj,df hij] at hr hq
 generalize b[j]=y at *
 generalize out[i+j]=o at *
 have e2:aO b = .imm b.length false (b.map dg):=rfl
 have hdy:dg y = .sc (.int .u32 (y:Int)):=rfl
 have hdo':dg o = .sc (.int .u32 (o:Int)):=rfl
 rw[e2] at h28;rw[hdy] at hdb;rw[hdo'] at hdo
 have hxy:x*y≤999999999*999999999:=Nat.mul_le_mul (by omega) (by omega)
 obtain⟨s1,hs1⟩:∃ s1,s1=x*y:=⟨_,rfl⟩
 rw[← hs1] at hr hq hxy
 obtain⟨s2,hs2⟩:∃ s2,s2=s1+o:=⟨_,rfl⟩
 rw[← hs2] at hr hq
 obtain⟨s3,hs3⟩:∃ s3,s3=c+s2:=⟨_,rfl⟩
 rw[← hs3] at hr hq
 have hw0:=cq .u64 x (dC (by omega))
 have hw1:=cq .u64 y (dC (by omega))
 have hw2:=cq .u64 o (dC (by omega))
 have hw3:=wrapM .u64 x y s1 hs1 (dC (by omega))
 have hw4:=dA .u64 s1 o s2 hs2 (dC (by omega))
 have hw5:=dA .u64 c s2 s3 hs3 (dC (by omega))
 have hw6:=jK .u64 s3 q hq (dC (by omega))
 have hw9:bF .u32 (r:Int)=(r:Int):=cq .u32 r (iM (by omega))
 have hw7:=dA .i64 i j (i+j) rfl (hiI (by omega))
 obtain⟨p,hp⟩:∃ p,p=i+j:=⟨_,rfl⟩
 have hwj:=bA j (by omega)
 rw[← hp] at hw7 hdo hov hij ⊢
 have hw8:=lG s3 r hr
 simp[Og,nN,f105,aU,bh,and_assoc,bd,du,gh,h78,h5,h6,h7,h8,h28,h29,h30,u32,u64,s32,a32,dI,hj,hij,hdb,hdo,aP,bZ,hw0,hw1,hw2,hw3,hw4,hw5,hw6,hw7,hw8,hw9,hwj,hov,gV r]
theorem gk {l:Ω}{p m y:Nat}(h:p≠m):at0 (l.set p y) m=at0 l m:=by
 simp[at0,getElem?_set_ne h]
theorem CZ (l:Ω)(p y:Nat)(h:p<l.length):val (l.set p y)+at0 l p*1000000000 ^ p=val l+y*1000000000 ^ p:=by
 rw[df h];exact qn l p y h
theorem Uw {V0 vo vo' c x y o P Q q r vb:Nat}(h:vo+c*P=V0+x*vb*Q)(hv:vo'+o*P=vo+r*P)(hr:r=(c+(x*y+o)) % 1000000000)(hq:q=(c+(x*y+o)) / 1000000000)(R:Nat)(hP:P=R*Q) :
  vo'+q*(P*1000000000)=V0+x*(vb+y*R)*Q:=by
 have e:c+(x*y+o)=r+1000000000*q:=by omega
 have e2:(c+(x*y+o))*P=(r+1000000000*q)*P:=by rw[e]
 simp only[Nat.add_mul] at e2
 have e3:1000000000*q*P=q*(P*1000000000):=by grind
 have e4:x*(vb+y*R)*Q=x*vb*Q+x*y*P:=by subst hP;grind
 rw[e4]
 omega
def Kept (fr fr':Ψ):Prop:=nth fr' 2=nth fr 2∧nth fr' 3=nth fr 3∧nth fr' 4=nth fr 4∧nth fr' 5=nth fr 5∧nth fr' 6=nth fr 6∧nth fr' 20=nth fr 20∧nth fr' 21=nth fr 21∧nth fr' 22=nth fr 22
theorem Ar (L:Lst)(run:aw)(k:Nat)(b0 b1 b2:Blk)(b:Ω)(i x V0:Nat)(hb:Dok b)(hx:x<1000000000):∀ (n j:Nat) (fr:Ψ) (wr:Ω) (out:Ω) (c:Nat),j+n=b.length→Dok out→c<1000000000→i+b.length≤out.length→out.length<1000000 →
  fr.length=78→nth fr 5 = .own 3 1 0 out.length true→nth fr 6 = .sc (.int .i64 (i:Int))→nth fr 7 = .sc (.int .u32 (x:Int))→nth fr 8 = .sc (.int .u64 (c:Int)) →
  nth fr 28=aO b→nth fr 29 = .sc (.int .i64 (b.length:Int))→nth fr 30 = .sc (.int .i64 (j:Int))→val out+c*1000000000 ^ (i+j)=V0+x*val (b.take j)*1000000000 ^ i →
  ∃ (fr':Ψ) (wr':Ω) (out':Ω) (c':Nat),ch (af (CC L) run k Og) (n+1) ⟨fr,hpM b0 b1 b2 out,wr⟩=some (.exit 2,⟨fr',hpM b0 b1 b2 out',wr'⟩)∧fr'.length=78∧Kept fr fr'∧nth fr' 8 = .sc (.int .u64 (c':Int))
   ∧ Dok out'∧c'<1000000000∧out'.length=out.length∧val out'+c'*1000000000 ^ (i+b.length)=V0+x*val b*1000000000 ^ i∧∀ m,i+b.length≤m→at0 out' m=at0 out m
 | 0,j,fr,wr,out,c,hj,ho,hc,hil,hl,h78,h5,h6,h7,h8,h28,h29,h30,hv=>by
  have:j=b.length:=by omega
  subst this
  obtain⟨fr',g1,g2,g3,g4,g5,g6,g7,g8,g9,g10,g11⟩:=UH L run k fr (hpM b0 b1 b2 out) wr b.length h78 h29 h30
  exact⟨fr',wr,out,c,bE g1,g2,⟨g3,g4,g5,g6,g7,g9,g10,g11⟩,by rw[g8,h8],ho,hc,rfl,by rw[hv,take_length],fun m _=>rfl⟩
 | n+1,j,fr,wr,out,c,hj,ho,hc,hil,hl,h78,h5,h6,h7,h8,h28,h29,h30,hv=>by
  have hy:=cu hb j
  have hoo:=cu ho (i+j)
  have hxy:x*at0 b j≤999999999*999999999:=Nat.mul_le_mul (by omega) (by omega)
  obtain⟨fr1,wr1,g1,g2,g3,g4,g5,g6,g7,g8,g9,g10,g11,g12,g13,g14,g15⟩:=H5 L run k fr b0 b1 b2 wr b out i j c x _ _ hb ho hx hc (by omega) (by omega) hl h78 h5 h6 h7 h8 h28 h29 h30 rfl rfl
  obtain⟨fr',wr',out',c',q1,q2,q3,q4,q5,q6,q7,q8,q9⟩:=Ar L run k b0 b1 b2 b i x V0 hb hx n (j+1) fr1 wr1 _ _ (by omega) (ho.set (i+j) (Nat.mod_lt _ (by omega)))
   (show (c+(x*at0 b j+at0 out (i+j))) / 1000000000<1000000000 by omega) (by rw[length_set];exact hil) (by rw[length_set];exact hl) g2 (by rw[g8,h5,length_set]) (by rw[g9,h6]) (by rw[g10,h7]) g3 (by rw[g14,h28]) (by rw[g15,h29]) g4
   (by
    have hvs:=CZ out (i+j) ((c+(x*at0 b j+at0 out (i+j))) % 1000000000) (by omega)
    rw[cB,show i+(j+1)=i+j+1 by omega,Nat.pow_succ]
    exact Uw hv hvs rfl rfl (1000000000 ^ j) (by rw[Nat.pow_add,Nat.mul_comm]))
  obtain⟨k1,k2,k3,k4,k5,k6,k7,k8⟩:=q3
  refine⟨fr',wr',out',c',by rw[ca g1];exact q1,q2,⟨by rw[k1,g5],by rw[k2,g6],by rw[k3,g7],by rw[k4,g8],by rw[k5,g9],by rw[k6,g11],by rw[k7,g12],by rw[k8,g13]⟩,q4,q5,q6,by rw[q7,length_set],q8,fun m hm => ?_⟩
  rw[q9 m hm,gk (by omega)]
def po:Code:=match ag 2 nN with | .seq (.block _ c) _=>c | c=>c
def UG:Code:=match ag 2 nN with | .seq _ c=>c | c=>c
theorem H3:ag 2 nN = .seq (.block 1 po) UG:=rfl
def UA:Code:=seq1 (seq1 (ag 2 po))
theorem ER:ag 2 po = .seq (.seq UA (.block 2 (.loop Og))) (ag 3 po):=rfl
theorem UE (L:Lst)(run:aw)(k:Nat)(fr:Ψ)(hp:Θ)(wr:Ω)(n:Nat)(h78:fr.length=78)(h21:nth fr 21 = .sc (.int .i64 (n:Int)))(h22:nth fr 22 = .sc (.int .i64 (n:Int))) :
  ∃ fr',af (CC L) run k nN ⟨fr,hp,wr⟩=some (.exit 0,⟨fr',hp,wr⟩)∧fr'.length=78∧nth fr' 2=nth fr 2∧nth fr' 3=nth fr 3∧nth fr' 4=nth fr 4∧nth fr' 5=nth fr 5:=by
 simp[nN,f105,h78,h21,h22]
theorem UD (L:Lst)(run:aw)(k:Nat)(fr:Ψ)(hp:Θ)(wr:Ω)(i n:Nat)(hi:i<n)(h78:fr.length=78)(h21:nth fr 21 = .sc (.int .i64 (n:Int)))(h22:nth fr 22 = .sc (.int .i64 (i:Int))) :
  ∃ fr',ba (CC L) run k 2 nN ⟨fr,hp,wr⟩=some ⟨fr',hp,wr⟩∧fr'.length=78∧nth fr' 2=nth fr 2∧nth fr' 3=nth fr 3∧nth fr' 4=nth fr 4∧nth fr' 5=nth fr 5∧nth fr' 20=nth fr 20∧nth fr' 21=nth fr 21∧nth fr' 22=nth fr 22:=by
 simp[nN,f105,ba,h78,h21,h22,hi]
theorem Oe (L:Lst)(run:aw)(k:Nat)(fr:Ψ)(hp:Θ)(wr:Ω)(a:Ω)(i:Nat)(hi:i<a.length)(h78:fr.length=78)(h20:nth fr 20=aO a)(h22:nth fr 22 = .sc (.int .i64 (i:Int))) :
  ∃ fr',ba (CC L) run k 2 po ⟨fr,hp,wr⟩=some ⟨fr',hp,wr⟩∧fr'.length=78∧nth fr' 6 = .sc (.int .i64 (i:Int))∧nth fr' 7 = .sc (.int .u32 (at0 a i:Int))∧nth fr' 8 = .sc (.int .u64 (0:Nat))∧nth fr' 2=nth fr 2∧nth fr' 3=nth fr 3∧nth fr' 4=nth fr 4∧nth fr' 5=nth fr 5∧nth fr' 20=nth fr 20∧nth fr' 21=nth fr 21∧nth fr' 22=nth fr 22:=by
 have hda:=eQ a i hi
 rw[df hi]
 generalize a[i]=x at *
 have e2:aO a = .imm a.length false (a.map dg):=rfl
 have hdx:dg x = .sc (.int .u32 (x:Int)):=rfl
 rw[e2] at h20;rw[hdx] at hda
 simp[po,nN,f105,ba,aU,bh,h78,h20,h22,hi,s32,a32,hda]
theorem Uz (L:Lst)(run:aw)(k:Nat)(fr:Ψ)(b0 b2 b3:Blk)(wr:Ω)(nb:Bool)(b:Ω)(h78:fr.length=78)(h3:nth fr 3 = .ptr 1 0) :
  ∃ fr',af (CC L) run k UA ⟨fr,[b0,⟨.live,[.sc (.bool nb),aO b]⟩,b2,b3],wr⟩=some (.normal,⟨fr',[b0,⟨.live,[.sc (.bool nb),aO b]⟩,b2,b3],wr⟩)∧fr'.length=78∧nth fr' 28=aO b∧nth fr' 29 = .sc (.int .i64 (b.length:Int))∧nth fr' 30 = .sc (.int .i64 (0:Nat))
   ∧ nth fr' 2=nth fr 2∧nth fr' 3=nth fr 3∧nth fr' 4=nth fr 4∧nth fr' 5=nth fr 5∧nth fr' 6=nth fr 6∧nth fr' 7=nth fr 7∧nth fr' 8=nth fr 8∧nth fr' 20=nth fr 20∧nth fr' 21=nth fr 21∧nth fr' 22=nth fr 22:=by
 simp[UA,po,nN,f105,seq1,bL,bP,cn,h78,h3,uW,sD,aD,wf0,wf1,aP,bq]
theorem UC (L:Lst)(run:aw)(k:Nat)(fr:Ψ)(b0 b2:Blk)(wr:Ω)(nb:Bool)(b out:Ω)(i c:Nat)(hc:c<1000000000)(hi:i+b.length<out.length)(hl:out.length<1000000)
  (h78:fr.length=78) (h3:nth fr 3 = .ptr 1 0) (h5:nth fr 5 = .own 3 1 0 out.length true) (h6:nth fr 6 = .sc (.int .i64 (i:Int))) (h8:nth fr 8 = .sc (.int .u64 (c:Int))) :
  ∃ fr' wr',af (CC L) run k (ag 3 po) ⟨fr,hpM b0 ⟨.live,[.sc (.bool nb),aO b]⟩ b2 out,wr⟩=some (.normal,⟨fr',hpM b0 ⟨.live,[.sc (.bool nb),aO b]⟩ b2 (out.set (i+b.length) c),wr'⟩)∧fr'.length=78
   ∧ nth fr' 2=nth fr 2∧nth fr' 3=nth fr 3∧nth fr' 4=nth fr 4∧nth fr' 5=nth fr 5∧nth fr' 20=nth fr 20∧nth fr' 21=nth fr 21∧nth fr' 22=nth fr 22:=by
 have hw7:=dA .i64 i b.length (i+b.length) rfl (hiI (by omega))
 have hov:=jn out (i+b.length) c hi
 have hw9:bF .u32 (c:Int)=(c:Int):=cq .u32 c (iM (by omega))
 obtain⟨p,hp⟩:∃ p,p=i+b.length:=⟨_,rfl⟩
 rw[← hp] at hw7 hov hi ⊢
 simp[po,nN,f105,bL,aU,bP,bh,and_assoc,cn,bd,du,gh,h78,h3,h5,h6,h8,uW,u32,u64,sD,s32,aD,wf0,wf1,dI,aP,bZ,bq,hw7,hw9,hov,hi,gV c]
theorem UF (L:Lst)(run:aw)(k:Nat)(fr:Ψ)(hp:Θ)(wr:Ω)(i:Nat)(hi:i<1000000)(h78:fr.length=78)(h22:nth fr 22 = .sc (.int .i64 (i:Int))) :
  ∃ fr',af (CC L) run k UG ⟨fr,hp,wr⟩=some (.normal,⟨fr',hp,wr⟩)∧fr'.length=78∧nth fr' 22 = .sc (.int .i64 ((i+1:Nat):Int))∧nth fr' 2=nth fr 2∧nth fr' 3=nth fr 3∧nth fr' 4=nth fr 4∧nth fr' 5=nth fr 5∧nth fr' 20=nth fr 20∧nth fr' 21=nth fr 21:=by
 have hw:=bA i (by omega)
 simp[UG,nN,f105,h78,h22,hw]
theorem H4 (L:Lst)(run:aw)(k:Nat)(fr:Ψ)(b0 b2:Blk)(wr:Ω)(nb:Bool)(a b out:Ω)(i:Nat)(ha:Dok a)(hb:Dok b)(ho:Dok out)(hi:i<a.length)(hil:out.length=a.length+b.length)(hl:out.length<1000000)(hk:b.length<k)
  (h78:fr.length=78) (h3:nth fr 3 = .ptr 1 0) (h5:nth fr 5 = .own 3 1 0 out.length true) (h20:nth fr 20=aO a) (h21:nth fr 21 = .sc (.int .i64 (a.length:Int))) (h22:nth fr 22 = .sc (.int .i64 (i:Int)))
  (hz:∀ m,i+b.length≤m→at0 out m=0) (hv:val out=val (a.take i)*val b) :
  ∃ (fr':Ψ) (wr':Ω) (out':Ω),af (CC L) run k nN ⟨fr,hpM b0 ⟨.live,[.sc (.bool nb),aO b]⟩ b2 out,wr⟩=some (.normal,⟨fr',hpM b0 ⟨.live,[.sc (.bool nb),aO b]⟩ b2 out',wr'⟩)∧fr'.length=78
   ∧ nth fr' 2=nth fr 2∧nth fr' 3 = .ptr 1 0∧nth fr' 4=nth fr 4∧nth fr' 5 = .own 3 1 0 out'.length true∧nth fr' 20=aO a∧nth fr' 21 = .sc (.int .i64 (a.length:Int))∧nth fr' 22 = .sc (.int .i64 ((i+1:Nat):Int))
   ∧ Dok out'∧out'.length=out.length∧(∀ m,i+1+b.length≤m→at0 out' m=0)∧val out'=val (a.take (i+1))*val b:=by
 obtain⟨f1,p1,p2,p3,p4,p5,p6,p7,p8,p9⟩:=UD L run k fr (hpM b0 ⟨.live,[.sc (.bool nb),aO b]⟩ b2 out) wr i a.length hi h78 h21 h22
 obtain⟨f2,q1,q2,q3,q4,q5,q6,q7,q8,q9,q10,q11,q12⟩:=Oe L run k f1 (hpM b0 ⟨.live,[.sc (.bool nb),aO b]⟩ b2 out) wr a i hi p2 (by rw[p7,h20]) (by rw[p9,h22])
 obtain⟨f3,r1,r2,r3,r4,r5,r6,r7,r8,r9,r10,r11,r12,r13,r14,r15⟩:=Uz L run k f2 b0 b2 ⟨.live,out.map dg⟩ wr nb b q2 (by rw[q7,p4,h3])
 have hx:=cu ha i
 obtain⟨f4,wr4,out4,c,t1,t2,t3,t4,t5,t6,t7,t8,t9⟩:=Ar L run k b0 ⟨.live,[.sc (.bool nb),aO b]⟩ b2 b i (at0 a i) (val (a.take i)*val b) hb hx b.length 0 f3 wr out 0 (by omega) ho (by omega) (by omega) hl r2
  (by rw[r9,q9,p6,h5]) (by rw[r10,q3]) (by rw[r11,q4]) (by rw[r12,q5]) r3 r4 r5 (by rw[take_zero,hv];simp[val])
 obtain⟨k1,k2,k3,k4,k5,k6,k7,k8⟩:=t3
 have h54:nth f4 5 = .own 3 1 0 out4.length true:=by rw[k4,r9,q9,p6,h5,t7]
 obtain⟨f5,wr5,u1,u2,u3,u4,u5,u6,u7,u8,u9⟩:=UC L run k f4 b0 b2 wr4 nb b out4 i c t6 (by omega) (by omega) t2 (by rw[k2,r7,q7,p4,h3]) h54 (by rw[k5,r10,q3]) t4
 obtain⟨f6,w1,w2,w3,w4,w5,w6,w7,w8,w9⟩:=UF L run k f5 (hpM b0 ⟨.live,[.sc (.bool nb),aO b]⟩ b2 (out4.set (i+b.length) c)) wr5 i (by omega) u2 (by rw[u9,k8,r15,q12,p9,h22])
 refine⟨f6,wr5,out4.set (i+b.length) c,?_,w2,?_,?_,?_,?_,?_,?_,w3,t5.set _ t6,?_,?_,?_⟩
 ·rw[aQ 2 p1,H3]
  have hB:af (CC L) run k po ⟨f1,hpM b0 ⟨.live,[.sc (.bool nb),aO b]⟩ b2 out,wr⟩=some (.normal,⟨f5,hpM b0 ⟨.live,[.sc (.bool nb),aO b]⟩ b2 (out4.set (i+b.length) c),wr5⟩):=by
   rw[aQ 2 q1,ER,ar ((ar r1).trans (bK (bT t1 (by omega))))]
   exact u1
  rw[ar (fF hB)]
  exact w1
 ·rw[w4,u3,k1,r6,q6,p3]
 ·rw[w5,u4,k2,r7,q7,p4,h3]
 ·rw[w6,u5,k3,r8,q8,p5]
 ·rw[w7,u6,h54,length_set]
 ·rw[w8,u7,k6,r13,q10,p7,h20]
 ·rw[w9,u8,k7,r14,q11,p8,h21]
 ·rw[length_set,t7]
 ·intro m hm
  rw[gk (by omega),t9 m (by omega),hz m (by omega)]
 ·have hs:=CZ out4 (i+b.length) c (by omega)
  rw[t9 _ (Nat.le_refl _),hz _ (Nat.le_refl _),Nat.zero_mul,Nat.add_zero,t8] at hs
  rw[hs,cB,Nat.add_mul]
  grind
theorem Aq (L:Lst)(run:aw)(k:Nat)(b0 b2:Blk)(nb:Bool)(a b:Ω)(ha:Dok a)(hb:Dok b)(hl:a.length+b.length<1000000)(hk:b.length<k):∀ (n i:Nat) (fr:Ψ) (wr:Ω) (out:Ω),i+n=a.length→Dok out→out.length=a.length+b.length →
  fr.length=78→nth fr 3 = .ptr 1 0→nth fr 5 = .own 3 1 0 out.length true→nth fr 20=aO a→nth fr 21 = .sc (.int .i64 (a.length:Int))→nth fr 22 = .sc (.int .i64 (i:Int))→(∀ m,i+b.length≤m→at0 out m=0)→val out=val (a.take i)*val b →
  ∃ (fr':Ψ) (wr':Ω) (out':Ω),ch (af (CC L) run k nN) (n+1) ⟨fr,hpM b0 ⟨.live,[.sc (.bool nb),aO b]⟩ b2 out,wr⟩=some (.exit 0,⟨fr',hpM b0 ⟨.live,[.sc (.bool nb),aO b]⟩ b2 out',wr'⟩)∧fr'.length=78
   ∧ nth fr' 2=nth fr 2∧nth fr' 3 = .ptr 1 0∧nth fr' 4=nth fr 4∧nth fr' 5 = .own 3 1 0 out'.length true∧Dok out'∧out'.length=a.length+b.length∧val out'=val a*val b
 | 0,i,fr,wr,out,hi,ho,hil,h78,h3,h5,h20,h21,h22,hz,hv=>by
  have:i=a.length:=by omega
  subst this
  obtain⟨fr',g1,g2,g3,g4,g5,g6⟩:=UE L run k fr (hpM b0 ⟨.live,[.sc (.bool nb),aO b]⟩ b2 out) wr a.length h78 h21 h22
  exact⟨fr',wr,out,bE g1,g2,g3,by rw[g4,h3],g5,by rw[g6,h5],ho,hil,by rw[hv,take_length]⟩
 | n+1,i,fr,wr,out,hi,ho,hil,h78,h3,h5,h20,h21,h22,hz,hv=>by
  obtain⟨f1,wr1,HY,g1,g2,g3,g4,g5,g6,g7,g8,g9,g10,g11,g12,g13⟩:=H4 L run k fr b0 b2 wr nb a b out i ha hb ho (by omega) hil (by omega) hk h78 h3 h5 h20 h21 h22 hz hv
  obtain⟨fr',wr',out',q1,q2,q3,q4,q5,q6⟩:=Aq L run k b0 b2 nb a b ha hb hl hk n (i+1) f1 wr1 HY (by omega) g10 (by omega) g2 g4 g6 g7 g8 g9 g12 g13
  exact⟨fr',wr',out',by rw[ca g1];exact q1,q2,by rw[q3,g3],q4,by rw[q5,g5],q6⟩
def UB:Code:=seq1 (seq1 (ag 2 mulC))
theorem Od:ag 2 mulC = .seq (.seq UB (.block 0 (.loop nN))) (ag 3 mulC):=rfl
theorem aaL (L:Lst)(run:aw)(k:Nat)(na nb:Bool)(a b:Ω)(hl:a.length+b.length<1000000) :
  ∃ fr wr,ba (CC L) run k 2 mulC ⟨entry 78 [wh na a,wh nb b],[],[]⟩=some ⟨fr,hpM ⟨.live,[.sc (.bool na),aO a]⟩ ⟨.live,[.sc (.bool nb),aO b]⟩ ⟨.live,[.sc (.bool false),.sc (.slice none 0 0)]⟩ (List.replicate (a.length+b.length) 0),wr⟩∧fr.length=78
   ∧ nth fr 2 = .ptr 0 0∧nth fr 3 = .ptr 1 0∧nth fr 4 = .ptr 2 0∧nth fr 5 = .own 3 1 0 (a.length+b.length) true:=by
 obtain⟨e1,e2,e3⟩:=cC 76 (wh na a) (wh nb b)
 generalize entry 78 [wh na a,wh nb b]=fr0 at *
 have e4:∀ n l,wh n l = .agg [.sc (.bool n),aO l]:=fun _ _=>rfl
 rw[e4] at e2 e3
 have hw7:=dA .i64 a.length b.length (a.length+b.length) rfl (hiI (by omega))
 rw[show hpM ⟨.live,[.sc (.bool na),aO a]⟩ ⟨.live,[.sc (.bool nb),aO b]⟩ ⟨.live,[.sc (.bool false),.sc (.slice none 0 0)]⟩ (List.replicate (a.length+b.length) 0)=[⟨.live,[.sc (.bool na),aO a]⟩,⟨.live,[.sc (.bool nb),aO b]⟩,⟨.live,[.sc (.bool false),.sc (.slice none 0 0)]⟩,⟨.live,rep (a.length+b.length) [dg 0]⟩] by rw[sA]]
 have h1:a.length+b.length≤cN:=Nat.le_trans (Nat.le_of_lt hl) (by decide)
 generalize hp:a.length+b.length=p at *
 simp[mulC,f105,ba,e1,e2,e3,bL,bP,bh,and_assoc,cn,bm,uW,sD,s32,b32,z32,zW,aD,wf0,wf1,aL,aP,bq,hw7,bQ,h1]
theorem aeL (L:Lst)(run:aw)(k:Nat)(fr:Ψ)(b1 b2 b3:Blk)(wr:Ω)(na:Bool)(a:Ω)(h78:fr.length=78)(h2:nth fr 2 = .ptr 0 0) :
  ∃ fr',af (CC L) run k UB ⟨fr,[⟨.live,[.sc (.bool na),aO a]⟩,b1,b2,b3],wr⟩=some (.normal,⟨fr',[⟨.live,[.sc (.bool na),aO a]⟩,b1,b2,b3],wr⟩)∧fr'.length=78∧nth fr' 20=aO a∧nth fr' 21 = .sc (.int .i64 (a.length:Int))∧nth fr' 22 = .sc (.int .i64 (0:Nat))
   ∧ nth fr' 2=nth fr 2∧nth fr' 3=nth fr 3∧nth fr' 4=nth fr 4∧nth fr' 5=nth fr 5:=by
 simp[UB,mulC,f105,seq1,bL,bP,cn,h78,h2,uW,sD,aD,wf0,wf1,aP,bq]
theorem uT(dr:Bool)(b0 b1 b2:Blk)(n:Bool)(l:Ω)(hd:Dok l)(hl:l.length<1000000) :
  bU (CC L1) run dr (hpM b0 b1 b2 l) 152 [.sc (.bool n),.own 3 1 0 l.length true]=some (br (sgn n (val l)),[b0,b1,b2,⟨.ro,l.map dg⟩],⟨[3],[3],false,false⟩):=by
 have h1:bj (snap (hpM b0 b1 b2 l) bp) [.sc (.bool n),.own 3 1 0 l.length true]=some ([.sc (.bool n),.imm l.length true (l.map dg)],[3]):=by
  have hs:=kg (hpM b0 b1 b2 l) 10 l
  have:snap (hpM b0 b1 b2 l) 12 (.own 3 1 0 l.length true)=some (.imm l.length true (l.map dg),[3]):=by
   rw[snap]
   have h:aP (hpM b0 b1 b2 l) 3=some ⟨.live,l.map dg⟩:=rfl
   simp only[h]
   rw[if_neg (by simp),Db]
   simp only[hs]
  simp only[bp,bj,this]
  rfl
 have h2:aJ [.sc (.bool n),.imm l.length true (l.map dg)]=[.sc (.bool n),aO l]:=by
  simp only[aJ,canon,jg];rfl
 have h3:(CC L1).orc 152 [.sc (.bool n),.imm l.length true (l.map dg)]=some [br (sgn n (val l))]:=by
  show fB (aJ [.sc (.bool n),.imm l.length true (l.map dg)])=_
  rw[h2]
  simp only[fB,cX hd hl]
 have:=et (run:=run) (dr:=dr) oG h1 h3 rfl
 rw[this]
 rfl
theorem Ux (run:aw)(k:Nat)(fr:Ψ)(wr:Ω)(na nb:Bool)(a b out:Ω)(hd:Dok out)(hl:out.length<1000000)(h78:fr.length=78)(h2:nth fr 2 = .ptr 0 0)(h3:nth fr 3 = .ptr 1 0)(h4:nth fr 4 = .ptr 2 0)(h5:nth fr 5 = .own 3 1 0 out.length true) :
  ∃ st,af (CC L1) run k (ag 3 mulC) ⟨fr,hpM ⟨.live,[.sc (.bool na),aO a]⟩ ⟨.live,[.sc (.bool nb),aO b]⟩ ⟨.live,[.sc (.bool false),.sc (.slice none 0 0)]⟩ out,wr⟩=some (.ret,st)∧bc TT st.fr st.hp f105.results.toList=some [br (sgn (na != nb) (val out))]:=by
 have hc:=fun dr=>uT run dr ⟨.live,[.sc (.bool na),aO a]⟩ ⟨.live,[.sc (.bool nb),aO b]⟩ ⟨.live,[.sc (.bool false),.sc (.slice none 0 0)]⟩ (na != nb) out hd hl
 simp only[whW] at hc ⊢
 generalize aK (sgn (na != nb) (val out)).natAbs=r at *
 generalize bw (sgn (na != nb) (val out))=nn at *
 cases na <;> cases nb <;> simp only[bne_self_eq_false,Bool.bne_true,Bool.bne_false,Bool.not_false] at hc <;>
  simp[mulC,f105,aM,dP,bP,bm,bX,bH,bd,hc,h78,h2,h3,h4,h5,uB,uW,sB,sW,aB,aW,wf0,wf1,aP,bZ,bq,cm,bD,bc]
theorem YZ (x y:Int):sgn (bw x != bw y) (x.natAbs*y.natAbs)=x*y:=by
 rw[ss,cK,cK,Int.natCast_mul]
 by_cases hx:x<0 <;> by_cases hy:y<0
 ·have e1:(x.natAbs:Int) = -x:=by omega
  have e2:(y.natAbs:Int) = -y:=by omega
  simp[hx,hy,e1,e2,Int.neg_mul,Int.mul_neg]
 ·have e1:(x.natAbs:Int) = -x:=by omega
  have e2:(y.natAbs:Int)=y:=by omega
  simp[hx,hy,e1,e2,Int.neg_mul]
 ·have e1:(x.natAbs:Int)=x:=by omega
  have e2:(y.natAbs:Int) = -y:=by omega
  simp[hx,hy,e1,e2,Int.mul_neg]
 ·have e1:(x.natAbs:Int)=x:=by omega
  have e2:(y.natAbs:Int)=y:=by omega
  simp[hx,hy,e1,e2]
theorem Py (n m:Nat):at0 (List.replicate n 0) m=0:=by
 by_cases h:m<n
 ·simp[at0,h]
 ·simp[at0,h]
def ES:Ψ→Option Ψ
 | [p,q]=>match fM p,fM q with
  | some x,some y=>some [br (x*y)]
  | _,_=>none
 | _=>none
theorem Uy(x y:Int)(hx:Sm x)(hy:Sm y)(hk:(aK x.natAbs).length<k)(hk2:(aK y.natAbs).length<k) :
  ∃ st,af (CC L1) run k mulC ⟨entry 78 [br x,br y],[],[]⟩=some (.ret,st)∧bc TT st.fr st.hp f105.results.toList=some [br (x*y)]:=by
 have hl:(aK x.natAbs).length+(aK y.natAbs).length<1000000:=by unfold Sm at hx hy;omega
 obtain⟨f1,wr1,p1,p2,p3,p4,p5,p6⟩:=aaL L1 run k (bw x) (bw y) (aK x.natAbs) (aK y.natAbs) hl
 obtain⟨f2,q1,q2,q3,q4,q5,q6,q7,q8,q9⟩:=aeL L1 run k f1 ⟨.live,[.sc (.bool (bw y)),aO (aK y.natAbs)]⟩ ⟨.live,[.sc (.bool false),.sc (.slice none 0 0)]⟩ ⟨.live,(List.replicate ((aK x.natAbs).length+(aK y.natAbs).length) 0).map dg⟩ wr1 (bw x) (aK x.natAbs) p2 p3
 obtain⟨f3,wr3,out,r1,r2,r3,r4,r5,r6,r7,r8,r9⟩:=Aq L1 run k ⟨.live,[.sc (.bool (bw x)),aO (aK x.natAbs)]⟩ ⟨.live,[.sc (.bool false),.sc (.slice none 0 0)]⟩ (bw y) (aK x.natAbs) (aK y.natAbs) (bS _) (bS _) hl hk2 (aK x.natAbs).length 0 f2 wr1 (List.replicate ((aK x.natAbs).length+(aK y.natAbs).length) 0)
  (by omega) (Dok.JJ _) (by simp) q2 (by rw[q7,p4]) (by rw[q9,p6,length_replicate]) q3 q4 q5 (fun m _=>Py _ _) (by rw[oB];simp[val])
 obtain⟨st,e1,e2⟩:=Ux run k f3 wr3 (bw x) (bw y) (aK x.natAbs) (aK y.natAbs) out r7 (by omega) r2 (by rw[r3,q6,p3]) r4 (by rw[r5,q8,p5]) r6
 refine⟨st,?_,?_⟩
 ·rw[br,br,aQ 2 p1,Od,ar ((ar q1).trans (bK (bT r1 (by omega))))]
  exact e1
 ·rw[e2,r9,bV,bV,YZ]
theorem rf:Ab.Spec base.P 105 ES:=Ab.Spec.bN (C:=CC L1) (cP LO) fun args rs h=>by
 unfold ES at h
 split at h
 ·split at h
  ·rename_i x y ex ey
   obtain⟨rfl,hx⟩:=eh ex
   obtain⟨rfl,hy⟩:=eh ey
   simp only[OiE] at h
   subst h
   obtain⟨st,e1,e2⟩:=Uy (runK (CC L1) 400001) 400001 x y hx hy (by unfold Sm at hx;omega) (by unfold Sm at hy;omega)
   exact⟨400002,_,_,_,_,_,aV XS rfl e1 e2,jB _ _,Wk.refl rfl,trivial⟩
  ·cases h
 ·cases h
def me:Code:=f181.body.getD .skip
def sj:Code:=((f181.body).bind aA).getD .skip
abbrev hp1 (out:Ω):Θ:=[⟨.live,out.map dg⟩]
theorem Mz (L:Lst)(run:aw)(k:Nat)(fr:Ψ)(hp:Θ)(wr:Ω)(h42:fr.length=42)(h8:nth fr 8 = .sc (.int .i64 (-1))) :
  ∃ fr',af (CC L) run k sj ⟨fr,hp,wr⟩=some (.exit 0,⟨fr',hp,wr⟩)∧fr'.length=42∧nth fr' 6=nth fr 6∧nth fr' 7=nth fr 7:=by
 simp[sj,f181,h42,h8]
set_option maxHeartbeats 2000000 in
theorem Du (L:Lst)(run:aw)(k:Nat)(fr:Ψ)(wr:Ω)(a out:Ω)(b m R q r:Nat)(ha:Dok a)(hb:0<b)(hb2:b<1000000000)(hR:R<b)(hm:m<a.length)(hl:out.length=a.length)(hl2:a.length<1000000)
  (h42:fr.length=42) (h0:nth fr 0=aO a) (h1:nth fr 1=dg b) (h6:nth fr 6 = .own 0 1 0 a.length true) (h7:nth fr 7 = .sc (.int .u64 (R:Int))) (h8:nth fr 8 = .sc (.int .i64 (m:Int)))
  (hq:q=(R*1000000000+at0 a m) / b) (hr:r=(R*1000000000+at0 a m) % b) :
  ∃ fr' wr',af (CC L) run k sj ⟨fr,hp1 out,wr⟩=some (.normal,⟨fr',hp1 (out.set m q),wr'⟩)∧fr'.length=42∧nth fr' 0=aO a∧nth fr' 1=dg b∧nth fr' 6 = .own 0 1 0 a.length true∧nth fr' 7 = .sc (.int .u64 (r:Int))∧nth fr' 8 = .sc (.int .i64 ((m:Int) - 1)):=by
 have hda:=eQ a m hm
 have hax:=ha.get hm
 have hov:=jn out m q (by omega)
 rw[df hm] at hq hr
 generalize a[m]=x at *
 have e1:aO a = .imm a.length false (a.map dg):=rfl
 have hdx:dg x = .sc (.int .u32 (x:Int)):=rfl
 have hdb:dg b = .sc (.int .u32 (b:Int)):=rfl
 rw[e1] at h0 ⊢;rw[hdx] at hda;rw[hdb] at h1 ⊢
 obtain⟨s1,hs1⟩:∃ s1,s1=R*1000000000:=⟨_,rfl⟩
 obtain⟨s2,hs2⟩:∃ s2,s2=s1+x:=⟨_,rfl⟩
 rw[← hs1,← hs2] at hq hr
 have hq9:q<1000000000:=by
  rw[hq]
  refine Nat.div_lt_of_lt_mul ?_
  have:(R+1)*1000000000≤b*1000000000:=Nat.mul_le_mul_right _ hR
  rw[Nat.add_mul] at this
  omega
 have hw0:=cq .u64 x (dC (by omega))
 have hwb:=cq .u64 b (dC (by omega))
 have hw1:=l9 .u64 R s1 hs1 (dC (by omega))
 have hw2:=dA .u64 s1 x s2 hs2 (dC (by omega))
 have hw3:=acM .u64 s2 b q hq (dC (by omega))
 have hw4:=C8 s2 b r hr
 have hw5:bF .u32 (q:Int)=(q:Int):=cq .u32 q (iM (by omega))
 have hwm:=cM m (by omega)
 have hb0 : ¬ (b=0):=by omega
 simp[sj,f181,aU,bh,and_assoc,bd,du,gh,h42,h0,h1,h6,h7,h8,u32,u64,s32,a32,dI,hm,hda,aP,bZ,hw0,hwb,hw1,hw2,hw3,hw4,hw5,hwm,hov,hb0,gV q,number,FP.free]
theorem wc (L:Lst)(run:aw)(k:Nat)(a:Ω)(b:Nat)(ha:Dok a)(hb:0<b)(hb2:b<1000000000)(hl2:a.length<1000000):∀ (m:Nat) (fr:Ψ) (wr:Ω) (out:Ω) (R:Nat),m≤a.length→out.length=a.length →
  fr.length=42→nth fr 0=aO a→nth fr 1=dg b→nth fr 6 = .own 0 1 0 a.length true→nth fr 7 = .sc (.int .u64 (R:Int))→nth fr 8 = .sc (.int .i64 ((m:Int) - 1)) →
  R=val (a.drop m) % b→val (out.drop m)=val (a.drop m) / b→Dok out →
  ∃ (fr':Ψ) (wr':Ω) (out':Ω),ch (af (CC L) run k sj) (m+1) ⟨fr,hp1 out,wr⟩=some (.exit 0,⟨fr',hp1 out',wr'⟩)∧fr'.length=42∧nth fr' 6 = .own 0 1 0 a.length true∧nth fr' 7 = .sc (.int .u64 ((val a % b:Nat):Int))∧out'.length=a.length∧Dok out'∧val out'=val a / b
 | 0,fr,wr,out,R,hm,hl,h42,h0,h1,h6,h7,h8,hR,hv,ho=>by
  obtain⟨fr',g1,g2,g3,g4⟩:=Mz L run k fr (hp1 out) wr h42 (by rw[h8];rfl)
  simp only[drop_zero] at hR hv
  exact⟨fr',wr,out,bE g1,g2,by rw[g3,h6],by rw[g4,h7,hR],hl,ho,hv⟩
 | m+1,fr,wr,out,R,hm,hl,h42,h0,h1,h6,h7,h8,hR,hv,ho=>by
  have h8':nth fr 8 = .sc (.int .i64 (m:Int)):=by rw[h8];simp
  have hRb:R<b:=by rw[hR];exact Nat.mod_lt _ hb
  obtain⟨fr1,wr1,g1,g2,g3,g4,g5,g6,g7⟩:=Du L run k fr wr a out b m R _ _ ha hb hb2 hRb (by omega) hl hl2 h42 h0 h1 h6 h7 h8' rfl rfl
  have hax:=cu ha m
  obtain⟨d1,d2⟩:=Fw (Q:=val (a.drop (m+1)) / b) (R:=val (a.drop (m+1)) % b) hb (iu a m (by omega)) rfl rfl
  rw[← hR] at d1 d2
  obtain⟨fr',wr',out',q1,q2⟩:=wc L run k a b ha hb hb2 hl2 m fr1 wr1 (out.set m ((R*1000000000+at0 a m) / b)) ((R*1000000000+at0 a m) % b) (by omega) (by rw[length_set];exact hl) g2 g3 g4 g5 g6 g7 d2
   (by rw[lp (by omega),val,hv];exact d1)
   (ho.set _ (by
    refine Nat.div_lt_of_lt_mul ?_
    have:(R+1)*1000000000≤b*1000000000:=Nat.mul_le_mul_right _ hRb
    rw[Nat.add_mul] at this
    omega))
  exact⟨fr',wr',out',by rw[ca g1];exact q1,q2⟩
def GP:Code:=seq1 (seq1 (ag 2 me))
theorem Dt:ag 2 me = .seq (.seq GP (.block 0 (.loop sj))) (ag 3 me):=rfl
theorem My (L:Lst)(run:aw)(k:Nat)(a:Ω)(p:PV)(hl:a.length<1000000) :
  ∃ fr wr,ba (CC L) run k 2 me ⟨entry 42 [aO a,p],[],[]⟩=some ⟨fr,hp1 (List.replicate a.length 0),wr⟩∧fr.length=42∧nth fr 0=aO a∧nth fr 1=p∧nth fr 6 = .own 0 1 0 a.length true∧nth fr 7 = .sc (.int .u64 (0:Nat)):=by
 obtain⟨e1,e2,e3⟩:=cC 40 (aO a) p
 generalize entry 42 [aO a,p]=fr0 at *
 have h1:a.length≤cN:=Nat.le_trans (Nat.le_of_lt hl) (by decide)
 rw[show hp1 (List.replicate a.length 0)=[⟨.live,rep a.length [dg 0]⟩] by rw[sA]]
 simp[me,f181,ba,e1,e2,e3,bL,bh,and_assoc,cn,s32,b32,z32,aL,bQ,h1]
theorem YE (L:Lst)(run:aw)(k:Nat)(fr:Ψ)(hp:Θ)(wr:Ω)(a:Ω)(hl:a.length<1000000)(h42:fr.length=42)(h0:nth fr 0=aO a) :
  ∃ fr',af (CC L) run k GP ⟨fr,hp,wr⟩=some (.normal,⟨fr',hp,wr⟩)∧fr'.length=42∧nth fr' 0=aO a∧nth fr' 1=nth fr 1∧nth fr' 6=nth fr 6∧nth fr' 7=nth fr 7∧nth fr' 8 = .sc (.int .i64 ((a.length:Int) - 1)):=by
 have hw:=cM a.length (by omega)
 simp[GP,me,f181,seq1,bL,cn,h42,h0,hw]
theorem GN (L:Lst)(run:aw)(k:Nat)(fr:Ψ)(hp:Θ)(wr:Ω)(p:PV)(r:Nat)(hr:r<1000000000)(h42:fr.length=42)(h6:nth fr 6=p)(h7:nth fr 7 = .sc (.int .u64 (r:Int))) :
  ∃ st,af (CC L) run k (ag 3 me) ⟨fr,hp,wr⟩=some (.ret,st)∧bc TT st.fr st.hp f181.results.toList=some [p,dg r]∧st.hp=hp:=by
 have hw5:bF .u32 (r:Int)=(r:Int):=cq .u32 r (iM (by omega))
 simp[me,f181,and_assoc,u32,u64,dI,h42,h6,h7,hw5,bc,gV r]
def dg?:PV→Option Nat
 | .sc (.int .u32 (.ofNat n))=>bif n.blt 1000000000 then some n else none
 | _=>none
theorem Wo {p:PV}{n:Nat}(h:dg? p=some n):p=dg n∧n<1000000000:=by
 unfold dg? at h
 split at h
 ·rename_i m
  cases hb:m.blt 1000000000 with
  | false=>rw[hb] at h;cases h
  | true =>
   rw[hb] at h
   simp at h;subst h
   exact⟨rfl,by simpa [Nat.blt_eq] using hb⟩
 ·cases h
theorem Wp {n:Nat}(h:n<1000000000):dg? (dg n)=some n:=by
 have:n.blt 1000000000=true:=by rw[Nat.blt_eq];exact h
 show (bif n.blt 1000000000 then some n else none)=some n
 rw[this];rfl
def m9:Ψ→Option Ψ
 | [p,q]=>match ia p,dg? q with
  | some a,some (b+1)=>some [aO (db a.length (val a / (b+1))),dg (val a % (b+1))]
  | _,_=>none
 | _=>none
theorem wb:Ab.Spec base.P 181 m9:=Ab.Spec.bN (C:=CC []) (cP trivial) fun args rs h=>by
 unfold m9 at h
 split at h
 ·split at h
  ·rename_i a b ea eb
   obtain⟨rfl,ha,hla⟩:=dz ea
   obtain⟨rfl,hb⟩:=Wo eb
   simp only[OiE] at h
   subst h
   obtain⟨f1,wr1,p1,p2,p3,p4,p5,p6⟩:=My [] (runK (CC []) (a.length+1)) (a.length+1) a (dg (b+1)) hla
   obtain⟨f2,q1,q2,q3,q4,q5,q6,q7⟩:=YE [] (runK (CC []) (a.length+1)) (a.length+1) f1 (hp1 (List.replicate a.length 0)) wr1 a hla p2 p3
   obtain⟨f3,wr3,out,r1,r2,r3,r4,r5,r6,r7⟩:=wc [] (runK (CC []) (a.length+1)) (a.length+1) a (b+1) ha (by omega) hb hla a.length f2 wr1 (List.replicate a.length 0) 0 (Nat.le_refl _) (by simp) q2 q3 (by rw[q4,p4]) (by rw[q5,p5]) (by rw[q6,p6]) q7 (by simp[val]) (by simp[val]) (Dok.JJ _)
   obtain⟨st,e1,e2,e3⟩:=GN [] (runK (CC []) (a.length+1)) (a.length+1) f3 (hp1 out) wr3 _ (val a % (b+1)) (Nat.lt_of_lt_of_le (Nat.mod_lt _ (by omega)) (by omega)) r2 r3 r4
   have hx:af (CC []) (runK (CC []) (a.length+1)) (a.length+1) me ⟨entry 42 [aO a,dg (b+1)],[],[]⟩=some (.ret,st):=by
    rw[aQ 2 p1,Dt,ar ((ar q1).trans (bK r1))]
    exact e1
   have hout:out=db a.length (val a / (b+1)):=r6.pS r5 r7
   refine⟨a.length+2,_,_,_,[.imm a.length true (out.map dg),dg (val a % (b+1))],[0],aV Ji rfl hx e2,?_,?_⟩
   ·rw[e3,← r5]
    have hs:=kg (hp1 out) 10 out
    have:snap (hp1 out) 12 (.own 0 1 0 out.length true)=some (.imm out.length true (out.map dg),[0]):=by
     rw[snap]
     have h:aP (hp1 out) 0=some ⟨.live,out.map dg⟩:=rfl
     simp only[h]
     rw[if_neg (by simp),Db]
     simp only[hs]
    simp only[bp,bj,this]
    rfl
   ·refine⟨?_,Wk.refl rfl,trivial⟩
    rw[← hout]
    have:=Wk.imm a.length true (out.map dg)
    rw[← r5] at this ⊢
    exact this
  ·cases h
 ·cases h
def qj:Code:=f165.body.getD .skip
def yZ:Code:=((f165.body).bind aA).getD .skip
theorem QA (L:Lst)(run:aw)(k:Nat)(fr:Ψ)(hp:Θ)(wr:Ω)(h21:fr.length=21)(h4:nth fr 4 = .sc (.int .i64 (-1))) :
  ∃ fr',af (CC L) run k yZ ⟨fr,hp,wr⟩=some (.exit 0,⟨fr',hp,wr⟩)∧fr'.length=21∧nth fr' 3=nth fr 3:=by
 simp[yZ,f165,h21,h4]
theorem Gs (L:Lst)(run:aw)(k:Nat)(fr:Ψ)(hp:Θ)(wr:Ω)(a:Ω)(m N M:Nat)(ha:Dok a)(hm:m<a.length)(hl:a.length<1000000)(hM:M=N*1000000000+at0 a m)(hM2:M<9223372036854775808)
  (h21:fr.length=21) (h0:nth fr 0=aO a) (h3:nth fr 3 = .sc (.int .i64 (N:Int))) (h4:nth fr 4 = .sc (.int .i64 (m:Int))) :
  ∃ fr',af (CC L) run k yZ ⟨fr,hp,wr⟩=some (.normal,⟨fr',hp,wr⟩)∧fr'.length=21∧nth fr' 0=aO a∧nth fr' 3 = .sc (.int .i64 (M:Int))∧nth fr' 4 = .sc (.int .i64 ((m:Int) - 1)):=by
 have hda:=eQ a m hm
 have hax:=ha.get hm
 rw[df hm] at hM
 generalize a[m]=x at *
 have e1:aO a = .imm a.length false (a.map dg):=rfl
 have hdx:dg x = .sc (.int .u32 (x:Int)):=rfl
 rw[e1] at h0 ⊢;rw[hdx] at hda
 obtain⟨s1,hs1⟩:∃ s1,s1=N*1000000000:=⟨_,rfl⟩
 rw[← hs1] at hM
 have hw0:bF .i64 (x:Int)=(x:Int):=cq .i64 x (hiI (by omega))
 have hw1:=l9 .i64 N s1 hs1 (hiI (by omega))
 have hw2:=dA .i64 s1 x M hM (hiI (by omega))
 have hwm:=cM m (by omega)
 simp[yZ,f165,aU,bh,h21,h0,h3,h4,uI,u32,s32,a32,dI,hm,hda,hw0,hw1,hw2,hwm]
theorem yY (L:Lst)(run:aw)(k:Nat)(a:Ω)(ha:Dok a)(hl:a.length≤2):∀ (m:Nat) (fr:Ψ) (hp:Θ) (wr:Ω),m≤a.length →
  fr.length=21→nth fr 0=aO a→nth fr 3 = .sc (.int .i64 ((val (a.drop m):Nat):Int))→nth fr 4 = .sc (.int .i64 ((m:Int) - 1)) →
  ∃ (fr':Ψ),ch (af (CC L) run k yZ) (m+1) ⟨fr,hp,wr⟩=some (.exit 0,⟨fr',hp,wr⟩)∧fr'.length=21∧nth fr' 3 = .sc (.int .i64 ((val a:Nat):Int))
 | 0,fr,hp,wr,hm,h21,h0,h3,h4=>by
  obtain⟨fr',g1,g2,g3⟩:=QA L run k fr hp wr h21 (by rw[h4];rfl)
  exact⟨fr',bE g1,g2,by rw[g3,h3,drop_zero]⟩
 | m+1,fr,hp,wr,hm,h21,h0,h3,h4=>by
  have h4':nth fr 4 = .sc (.int .i64 (m:Int)):=by rw[h4];simp
  have hb:val (a.drop m)<9223372036854775808:=by
   have h1:=eX (ha.drop m)
   have h2:(a.drop m).length≤2:=by rw[length_drop];omega
   have h3:=Nat.pow_le_pow_right (n:=1000000000) (by omega) h2
   have h4:1000000000 ^ 2<9223372036854775808:=by decide
   omega
  obtain⟨fr1,g1,g2,g3,g4,g5⟩:=Gs L run k fr hp wr a m (val (a.drop (m+1))) (val (a.drop m)) ha (by omega) (by omega) (by rw[iu a m (by omega)];omega) hb h21 h0 h3 h4'
  obtain⟨fr',q1,q2⟩:=yY L run k a ha hl m fr1 hp wr (by omega) g2 g3 g4 g5
  exact⟨fr',by rw[ca g1];exact q1,q2⟩
def QB:Code:=seq1 (seq1 (ag 2 qj))
theorem Gr:ag 2 qj = .seq (.seq QB (.block 0 (.loop yZ))) (ag 3 qj):=rfl
theorem P9 (L:Lst)(run:aw)(k:Nat)(p:PV) :
  ∃ fr,ba (CC L) run k 2 qj ⟨entry 21 [p],[],[]⟩=some ⟨fr,[],[]⟩∧fr.length=21∧nth fr 0=p∧nth fr 3 = .sc (.int .i64 (0:Nat)):=by
 obtain⟨e1,e2⟩:=cL 20 p
 generalize entry 21 [p]=fr0 at *
 simp[qj,f165,ba,e1,e2]
theorem adA(a:Ω)(hl:a.length<1000000)(h21:fr.length=21)(h0:nth fr 0=aO a) :
  ∃ fr',af (CC L) run k QB ⟨fr,[],[]⟩=some (.normal,⟨fr',[],[]⟩)∧fr'.length=21∧nth fr' 0=aO a∧nth fr' 3=nth fr 3∧nth fr' 4 = .sc (.int .i64 ((a.length:Int) - 1)):=by
 have hw:=cM a.length (by omega)
 simp[QB,qj,f165,seq1,bL,cn,h21,h0,hw]
theorem LY(p:PV)(h21:fr.length=21)(h3:nth fr 3=p) :
  ∃ st,af (CC L) run k (ag 3 qj) ⟨fr,[],[]⟩=some (.ret,st)∧bc TT st.fr st.hp f165.results.toList=some [p]:=by
 simp[qj,f165,h21,h3,bc]
def CV:Ψ→Option Ψ
 | [p]=>match ia p with
  | some a=>bif a.length.ble 2 then some [Ab.bJ (Int.ofNat (val a))] else none
  | _=>none
 | _=>none
theorem LX:Ab.Spec base.P 165 CV:=Ab.Spec.bN (C:=CC []) (cP trivial) fun args rs h=>by
 unfold CV at h
 split at h
 ·split at h
  ·rename_i a ea
   obtain⟨rfl,ha,hla⟩:=dz ea
   cases hb:a.length.ble 2 with
   | false=>rw[hb] at h;cases h
   | true =>
    rw[hb] at h
    simp only[cond_true,OiE] at h
    subst h
    rw[Nat.ble_eq] at hb
    obtain⟨f1,p1,p2,p3,p4⟩:=P9 [] (runK (CC []) 3) 3 (aO a)
    obtain⟨f2,q1,q2,q3,q4,q5⟩:=adA [] (runK (CC []) 3) 3 f1 a hla p2 p3
    obtain⟨f3,r1,r2,r3⟩:=yY [] (runK (CC []) 3) 3 a ha hb a.length f2 [] [] (Nat.le_refl _) q2 q3 (by rw[q4,p4];simp[val]) q5
    obtain⟨st,e1,e2⟩:=LY [] (runK (CC []) 3) 3 f3 _ r2 r3
    have hx:af (CC []) (runK (CC []) 3) 3 qj ⟨entry 21 [aO a],[],[]⟩=some (.ret,st):=by
     rw[aQ 2 p1,Gr,ar ((ar q1).trans (bK (bT r1 (by omega))))]
     exact e1
    exact⟨4,_,_,_,_,_,aV PH rfl hx e2,eL _ (val a),Wk.refl rfl,trivial⟩
  ·cases h
 ·cases h
def pD:Code:=f164.body.getD .skip
def si:Code:=((f164.body).bind aA).getD .skip
theorem Mm(h12:fr.length=12)(h1:nth fr 1 = .sc (.int .i64 (0:Nat))) :
  ∃ fr',af (CC L) run k si ⟨fr,[],[]⟩=some (.exit 0,⟨fr',[],[]⟩)∧fr'.length=12∧nth fr' 0=nth fr 0:=by
 simp[si,f164,h12,h1]
theorem Dn(x y r:Nat)(hy:0<y)(hr:r=x % y)(h12:fr.length=12)(h0:nth fr 0 = .sc (.int .i64 (x:Int)))(h1:nth fr 1 = .sc (.int .i64 (y:Int))) :
  ∃ fr',af (CC L) run k si ⟨fr,[],[]⟩=some (.normal,⟨fr',[],[]⟩)∧fr'.length=12∧nth fr' 0 = .sc (.int .i64 (y:Int))∧nth fr' 1 = .sc (.int .i64 (r:Int)):=by
 have hw:=C8 x y r hr
 have hy0 : ¬ (y=0):=by omega
 simp[si,f164,h12,h0,h1,hy,hy0,hw,number,FP.free]
theorem v7 (L:Lst)(run:aw)(k:Nat):∀ (n y x:Nat) (fr:Ψ),y<n→fr.length=12→nth fr 0 = .sc (.int .i64 (x:Int))→nth fr 1 = .sc (.int .i64 (y:Int)) →
  ∃ fr',ch (af (CC L) run k si) n ⟨fr,[],[]⟩=some (.exit 0,⟨fr',[],[]⟩)∧fr'.length=12∧nth fr' 0 = .sc (.int .i64 ((Nat.gcd x y:Nat):Int))
 | 0,y,x,fr,hn,h12,h0,h1=>by omega
 | n+1,y,x,fr,hn,h12,h0,h1=>by
  by_cases hy:y=0
  ·subst hy
   obtain⟨fr',g1,g2,g3⟩:=Mm L run k fr h12 h1
   exact⟨fr',bE g1,g2,by rw[g3,h0,Nat.gcd_zero_right]⟩
  ·obtain⟨fr1,g1,g2,g3,g4⟩:=Dn L run k fr x y _ (by omega) rfl h12 h0 h1
   obtain⟨fr',q1,q2,q3⟩:=v7 L run k n (x % y) y fr1 (by have:=Nat.mod_lt x (show 0<y by omega);omega) g2 g3 g4
   refine⟨fr',by rw[ca g1];exact q1,q2,?_⟩
   rw[q3,Nat.gcd_comm y (x % y),← Nat.gcd_rec,Nat.gcd_comm]
theorem Dm:ag 1 pD = .seq (.block 0 (.loop si)) (ag 2 pD):=rfl
theorem Ml (L:Lst)(run:aw)(k:Nat)(p q:PV) :
  ∃ fr,ba (CC L) run k 1 pD ⟨entry 12 [p,q],[],[]⟩=some ⟨fr,[],[]⟩∧fr.length=12∧nth fr 0=p∧nth fr 1=q:=by
 obtain⟨e1,e2,e3⟩:=cC 10 p q
 generalize entry 12 [p,q]=fr0 at *
 simp[pD,f164,ba,e1,e2,e3]
theorem GG(p:PV)(h12:fr.length=12)(h0:nth fr 0=p) :
  ∃ st,af (CC L) run k (ag 2 pD) ⟨fr,[],[]⟩=some (.ret,st)∧bc TT st.fr st.hp f164.results.toList=some [p]:=by
 simp[pD,f164,h12,h0,bc]
def Bw:Ψ→Option Ψ
 | [.sc (.int .i64 (.ofNat x)),.sc (.int .i64 (.ofNat y))]=>some [Ab.bJ (Int.ofNat (Nat.gcd x y))]
 | _=>none
theorem GD:Ab.Spec base.P 164 Bw:=Ab.Spec.bN (C:=CC []) (cP trivial) fun args rs h=>by
 unfold Bw at h
 split at h
 ·rename_i x y
  simp only[OiE] at h
  subst h
  obtain⟨f1,p1,p2,p3,p4⟩:=Ml [] (runK (CC []) (y+1)) (y+1) (.sc (.int .i64 (x:Int))) (.sc (.int .i64 (y:Int)))
  obtain⟨f2,q1,q2,q3⟩:=v7 [] (runK (CC []) (y+1)) (y+1) (y+1) y x f1 (by omega) p2 p3 p4
  obtain⟨st,e1,e2⟩:=GG [] (runK (CC []) (y+1)) (y+1) f2 _ q2 q3
  have hx:af (CC []) (runK (CC []) (y+1)) (y+1) pD ⟨entry 12 [.sc (.int .i64 (x:Int)),.sc (.int .i64 (y:Int))],[],[]⟩=some (.ret,st):=by
   rw[aQ 1 p1,Dm,ar (bK q1)]
   exact e1
  exact⟨y+2,_,_,_,_,_,aV Jh rfl hx e2,eL _ (Nat.gcd x y),Wk.refl rfl,trivial⟩
 ·cases h
def gx:Code:=f190.body.getD .skip
def oH:Code:=((f190.body).bind aA).getD .skip
theorem Ga:base.F.get 190=some f190:=by kernel_rfl
theorem MA:base.shared 190=false:=by kernel_rfl
theorem G4 (L:Lst)(run:aw)(k:Nat)(fr:Ψ)(hp:Θ)(wr:Ω)(n:Nat)(h40:fr.length=40)
  (h14:nth fr 14 = .sc (.int .i64 (n:Int))) (h15:nth fr 15 = .sc (.int .i64 (n:Int))) :
  ∃ fr',af (CC L) run k oH ⟨fr,hp,wr⟩=some (.exit 0,⟨fr',hp,wr⟩)∧fr'.length=40∧nth fr' 5=nth fr 5∧nth fr' 6=nth fr 6:=by
 simp[oH,f190,h40,h14,h15]
set_option maxHeartbeats 2000000 in
theorem BF (L:Lst)(run:aw)(k:Nat)(fr:Ψ)(hp:Θ)(wr:Ω)(a out:Ω)(i c b s:Nat)(ha:Dok a)(hb:b<1000000000)(hc:c<1000000000)(hi:i<a.length)(hl:a.length<1000000)
  (h40:fr.length=40) (h13:nth fr 13=aO a) (h14:nth fr 14 = .sc (.int .i64 (a.length:Int))) (h15:nth fr 15 = .sc (.int .i64 (i:Int))) (h1:nth fr 1=dg b)
  (h6:nth fr 6 = .sc (.int .u64 (c:Int))) (hO:dR 0 hp out (nth fr 5)) (ho:out.length=i) (hs:s=c+at0 a i*b) :
  ∃ fr' hp' wr',af (CC L) run k oH ⟨fr,hp,wr⟩=some (.normal,⟨fr',hp',wr'⟩)∧fr'.length=40∧nth fr' 13=aO a∧nth fr' 14 = .sc (.int .i64 (a.length:Int))
   ∧ nth fr' 15 = .sc (.int .i64 ((i+1:Nat):Int))∧nth fr' 1=dg b∧nth fr' 6 = .sc (.int .u64 ((s / 1000000000:Nat):Int))∧dR 0 hp' (out++[s % 1000000000]) (nth fr' 5):=by
 have hda:=cY a i hi
 have hax:=cu ha i
 generalize at0 a i=x at *
 have e1:aO a = .imm a.length false (a.map dg):=rfl
 have hdb:dg b = .sc (.int .u32 (b:Int)):=rfl
 rw[e1] at h13 ⊢;rw[hdb] at h1 ⊢
 have hxy:x*b≤999999999*999999999:=Nat.mul_le_mul (by omega) (by omega)
 obtain⟨s1,hs1⟩:∃ s1,s1=x*b:=⟨_,rfl⟩
 rw[← hs1] at hs hxy
 have hw0:=cq .u64 x (dC (by omega))
 have hw1:=cq .u64 b (dC (by omega))
 have hw2:=wrapM .u64 x b s1 hs1 (dC (by omega))
 have hw3:=dA .u64 c s1 s hs (dC (by omega))
 have hwi:=bA i (by omega)
 obtain⟨q,hq⟩:∃ q,q=s / 1000000000:=⟨_,rfl⟩
 obtain⟨r,hr⟩:∃ r,r=s % 1000000000:=⟨_,rfl⟩
 have hw4:bF .u64 ((s:Int) / 1000000000)=(q:Int):=jK .u64 s q hq (dC (by omega))
 have hw5:=lG s r hr
 have hw6:bF .u32 (r:Int)=(r:Int):=cq .u32 r (iM (by omega))
 obtain⟨p',hp',fp,h7,h8,h9⟩:=hO.app r (ho ▸ Nat.lt_trans hi (Nat.lt_trans hl (by decide)))
 rw[← hq,← hr]
 simp[oH,f190,soft,eu,aU,bh,and_assoc,bd,du,h40,h13,h14,h15,h1,h6,u32,u64,s32,b32,z32,a32,dI,hi,hda,hw0,hw1,hw2,hw3,hw4,hw5,hw6,hwi,gV r,nV,nB,jN,bQ,h7,h8]
theorem DI {vo va c x b P s q r:Nat}(h:vo+c*P=va*b)(hs:s=c+x*b)(hq:q=s / 1000000000)(hr:r=s % 1000000000) :
  vo+P*r+q*(P*1000000000)=(va+x*P)*b:=by
 have e:s=r+1000000000*q:=by omega
 have e2:s*P=(r+1000000000*q)*P:=by rw[e]
 subst hs
 simp only[Nat.add_mul] at e2 ⊢
 have e3:1000000000*q*P=q*(P*1000000000):=by grind
 have e4:r*P=P*r:=Nat.mul_comm _ _
 have e5:x*b*P=x*P*b:=by grind
 omega
theorem tJ (L:Lst)(run:aw)(k:Nat)(a:Ω)(b:Nat)(ha:Dok a)(hb:b<1000000000)(hl:a.length<1000000):∀ (n i:Nat) (fr:Ψ) (hp:Θ) (wr:Ω) (out:Ω) (c:Nat),i+n=a.length →
  fr.length=40→nth fr 13=aO a→nth fr 14 = .sc (.int .i64 (a.length:Int))→nth fr 15 = .sc (.int .i64 (i:Int))→nth fr 1=dg b→nth fr 6 = .sc (.int .u64 (c:Int))→dR 0 hp out (nth fr 5)→out.length=i →
  Dok out→c<1000000000→val out+c*1000000000 ^ i=val (a.take i)*b →
  ∃ (fr':Ψ) (hp':Θ) (wr':Ω) (out':Ω) (c':Nat),ch (af (CC L) run k oH) (n+1) ⟨fr,hp,wr⟩=some (.exit 0,⟨fr',hp',wr'⟩)∧fr'.length=40∧nth fr' 6 = .sc (.int .u64 (c':Int))∧dR 0 hp' out' (nth fr' 5)∧out'.length=a.length
   ∧ Dok out'∧c'<1000000000∧val out'+c'*1000000000 ^ a.length=val a*b
 | 0,i,fr,hp,wr,out,c,hi,h40,h13,h14,h15,h1,h6,hO,ho,hd,hc,hv=>by
  have:i=a.length:=by omega
  subst this
  obtain⟨fr',g1,g2,g3,g4⟩:=G4 L run k fr hp wr a.length h40 h14 h15
  exact⟨fr',hp,wr,out,c,bE g1,g2,by rw[g4,h6],by rw[g3];exact hO,ho,hd,hc,by rw[hv,take_length]⟩
 | n+1,i,fr,hp,wr,out,c,hi,h40,h13,h14,h15,h1,h6,hO,ho,hd,hc,hv=>by
  obtain⟨fr1,hp1,wr1,g1,g2,g3,g4,g5,g6,g7,g8⟩:=BF L run k fr hp wr a out i c b _ ha hb hc (by omega) hl h40 h13 h14 h15 h1 h6 hO ho rfl
  obtain⟨fr',hp',wr',out',c',q1,q2⟩:=tJ L run k a b ha hb hl n (i+1) fr1 hp1 wr1 _ _ (by omega) g2 g3 g4 g5 g6 g7 g8 (by simp[ho]) (hd.append (Dok.nil.cons (Nat.mod_lt _ (by omega))))
   (by
    have:=cu ha i
    have:at0 a i*b≤999999999*999999999:=Nat.mul_le_mul (by omega) (by omega)
    omega)
   (by
    rw[cB,dL,ho,Nat.pow_succ]
    exact DI hv rfl rfl rfl)
  exact⟨fr',hp',wr',out',c',by rw[ca g1];exact q1,q2⟩
def BG:Code:=seq1 (seq1 (ag 2 gx))
theorem BE:ag 2 gx = .seq (.seq BG (.block 0 (.loop oH))) (ag 3 gx):=rfl
theorem DK (L:Lst)(run:aw)(k:Nat)(p q:PV) :
  ∃ fr wr,ba (CC L) run k 1 gx ⟨entry 40 [p,q],[],[]⟩=some ⟨fr,[],wr⟩∧fr.length=40∧nth fr 0=p∧nth fr 1=q:=by
 obtain⟨e1,e2,e3⟩:=cC 38 p q
 generalize entry 40 [p,q]=fr0 at *
 simp[gx,f190,ba,e1,e2,e3,and_assoc]
theorem DJ (L:Lst)(run:aw)(k:Nat)(a:Ω)(fr0:Ψ)(wr0:Ω)(hl:a.length<1000000)(e1:fr0.length=40)(e2:nth fr0 0=aO a) :
  ∃ fr hp wr,ba (CC L) run k 1 (ag 1 gx) ⟨fr0,[],wr0⟩=some ⟨fr,hp,wr⟩∧fr.length=40∧nth fr 0=aO a∧nth fr 1=nth fr0 1∧nth fr 6 = .sc (.int .u64 (0:Nat))∧dR 0 hp [] (nth fr 5):=by
 have hO:∀ n,dR 0 [⟨.live,rep n [dg 0]⟩] [] (.own 0 1 0 0 false):=fun n=>⟨Nat.zero_le _,.inr ⟨0,List.replicate n 0,Nat.le_refl _,by simp,rfl,by rw[sA];rfl⟩⟩
 have hw:=bA a.length (by omega)
 have h1:a.length+1≤cN:=Nat.le_trans (show a.length+1≤1000000 by assumption) (by decide)
 simp[gx,f190,ba,e1,e2,bL,jX,ji,and_assoc,cn,hw,s32,b32,z32,bQ,h1,aL,hO]
theorem R2 (L:Lst)(run:aw)(k:Nat)(fr:Ψ)(hp:Θ)(wr:Ω)(a:Ω)(h40:fr.length=40)(h0:nth fr 0=aO a) :
  ∃ fr',af (CC L) run k BG ⟨fr,hp,wr⟩=some (.normal,⟨fr',hp,wr⟩)∧fr'.length=40∧nth fr' 13=aO a∧nth fr' 14 = .sc (.int .i64 (a.length:Int))∧nth fr' 15 = .sc (.int .i64 (0:Nat))
   ∧ nth fr' 1=nth fr 1∧nth fr' 6=nth fr 6∧nth fr' 5=nth fr 5:=by
 simp[BG,gx,seq1,f190,bL,cn,h40,h0]
theorem DL (L:Lst)(run:aw)(k:Nat)(fr:Ψ)(hp:Θ)(wr:Ω)(out:Ω)(c:Nat)(hc:c<1000000000)(hl:out.length<1000000)(h40:fr.length=40)(h6:nth fr 6 = .sc (.int .u64 (c:Int)))(hO:dR 0 hp out (nth fr 5)) :
  ∃ st id,af (CC L) run k (ag 3 gx) ⟨fr,hp,wr⟩=some (.ret,st)∧bc TT st.fr st.hp f190.results.toList=some [.own id 1 0 (out.length+1) false]∧aP st.hp id=some ⟨.live,(out++[c]).map dg⟩:=by
 obtain⟨id,hp',fp,h7,h8⟩:=hO.ajU c (by omega)
 have hw6:bF .u32 (c:Int)=(c:Int):=cq .u32 c (iM (by omega))
 refine (fun ⟨st,h⟩=>⟨st,id,h⟩:(∃ st,_)→_) ?_
 have h8':aP hp' id=some ⟨.live,out.map dg++[dg c]⟩:=by simpa using h8
 simp[gx,f190,soft,eu,bd,du,u32,u64,dI,h40,h6,hw6,s32,b32,z32,gV c,nV,nB,jN,bQ,h7,h8',bc]
theorem G3 (L:Lst)(hs:∀ g,(CC L).sorc g=none)(a:Ω)(b k:Nat)(ha:Dok a)(hb:b<1000000000)(hl:a.length<1000000)(hk:a.length<k) :
  ∃ hp wr id,runK (CC L) (k+1) 190 [aO a,dg b] []=some ([.own id 1 0 (a.length+1) false],hp,wr)∧aP hp id=some ⟨.live,(db (a.length+1) (val a*b)).map dg⟩:=by
 obtain⟨fr9,wr9,h1,h91,h92,h93⟩:=DK L (runK (CC L) k) k (aO a) (dg b)
 obtain⟨fr0,hp0,wr0,h1',h2,h3,h4,h5,h6⟩:=DJ L (runK (CC L) k) k a fr9 wr9 hl h91 h92
 obtain⟨fr1,g1,g2,g3,g4,g5,g6,g7,g8⟩:=R2 L (runK (CC L) k) k fr0 hp0 wr0 a h2 h3
 obtain⟨fr2,hp2,wr2,out,c,q1,q2,q3,q4,q5,q6,q7,q8⟩:=tJ L (runK (CC L) k) k a b ha hb hl a.length 0 fr1 hp0 wr0 [] 0 (by simp) g2 g3 g4 g5 (by rw[g6,h4,h93]) (by rw[g7,h5]) (by rw[g8];exact h6) rfl Dok.nil (by omega) (by simp[val])
 obtain⟨st,id,e1,e2,e3⟩:=DL L (runK (CC L) k) k fr2 hp2 wr2 out c q7 (by omega) q2 q3 q4
 have hx:af (CC L) (runK (CC L) k) k gx ⟨entry 40 [aO a,dg b],[],[]⟩=some (.ret,st):=by
  rw[aQ 1 h1,aQ 1 h1',show ag 1 (ag 1 gx)=ag 2 gx from rfl,BE,ar ((ar g1).trans (bK (bT q1 (by omega))))]
  exact e1
 have hout:out++[c]=db (a.length+1) (val a*b):=by
  refine (q6.append (Dok.nil.cons (by omega))).pS (by simp[q5]) ?_
  rw[dL,q5,Nat.mul_comm,q8]
 rw[hout] at e3
 rw[q5] at e2
 exact⟨st.hp,st.wr,id,aV Ga rfl hx e2 (hs _),e3⟩
end Go.Proofs.YtjdmodeenbdfpaaGreat
end
