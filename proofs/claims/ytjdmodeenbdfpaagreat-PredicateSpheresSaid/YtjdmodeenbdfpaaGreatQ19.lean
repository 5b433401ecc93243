/- Contracts of num's integers, part 19 of the proof; each lemma states its own conditions. -/
import Derived.Test.YtjdmodeenbdfpaaGreatQ18
set_option linter.unusedSimpArgs false
set_option linter.unusedVariables false
namespace Go.Proofs.YtjdmodeenbdfpaaGreat
open Go Go.Ab
noncomputable def L2:Lst:=[(149,tz),(139,tE)]
theorem afP:dM base.P L2:=⟨pN,qu,trivial⟩
theorem acq:bu L2 149=fun a=>tz (aJ a):=rfl
theorem acr:bu L2 139=fun a=>tE (aJ a):=rfl
theorem Sm.neg {z:Int}(h:Sm z):Sm (-z):=by unfold Sm at *;rwa [Int.natAbs_neg]
theorem UP (run:aq)(dr:Bool)(hp:List Blk)(x:Int)(hx:Sm x):cb (CC L2) run dr hp 149 [bn x]=some (bn (-x),hp,⟨[],[],false,false⟩) :=
 bp FK acq run dr hp _ [bn (-x)] (lV hp x) (jv x) (by simp only[tz,cG hx])
theorem UQ (run:aq)(dr:Bool)(hp:List Blk)(x y:Int)(hx:Sm x)(hy:Sm y):cb (CC L2) run dr hp 139 [bn x,bn y]=some (bn (x+y),hp,⟨[],[],false,false⟩) :=
 bp FN acr run dr hp _ [bn (x+y)] (gC hp x y) (fk x y) (by simp only[tE,cG hx,cG hy])
noncomputable def aew:Code:=Tryz.f168.body.getD .skip
theorem OO (run:aq)(k:Nat)(x y:Int)(hx:Sm x)(hy:Sm y) :
  ∃ st,af (CC L2) run k aew ⟨entry 9 [bn x,bn y],[],[]⟩=some (.ret,st)∧aV TT st.fr st.hp Tryz.f168.results.toList=some [bn (x - y)]:=by
 have hc1:=fun hp dr=>UP run dr hp y hy
 have hc2:=fun hp dr=>UQ run dr hp x (-y) hx hy.neg
 rw[← Int.sub_eq_add_neg] at hc2
 obtain⟨e1,e2,e3⟩:=cn 7 (bn x) (bn y)
 generalize entry 9 [bn x,bn y]=fr0 at *
 simp only[whW] at hc1 hc2 e2 e3 ⊢
 generalize aA (-y).natAbs=ry at *
 generalize bt (-y)=ny at *
 generalize aA (x - y).natAbs=rz at *
 generalize bt (x - y)=nz at *
 generalize aA x.natAbs=rx at *
 generalize bt x=nx at *
 generalize aA y.natAbs=rw at *
 generalize bt y=nw at *
 simp[aew,Tryz.f168,e1,e2,e3,af,aH,an,ao,aG,ag,ai,aO,aj,ak,aC,az,partOf,aa,ae,ab,bh,bm,bS,bD,bc,hc1,hc2,sW,aW,zW,aP,aU,aZ,cf,bX,bE,br,aV,number,FP.free,cH,FP.apart]
def KM:List PV→Option (List PV)
 | [p,q]=>match fL p,fL q with
  | some x,some y=>some [bn (x - y)]
  | _,_=>none
 | _=>none
theorem BU:Ab.Spec base.P 168 KM:=Ab.Spec.bN (C:=CC L2) (cU afP) fun args rs h=>by
 unfold KM at h
 split at h
 ·split at h
  ·rename_i x y ex ey
   obtain⟨rfl,hx⟩:=dR ex
   obtain⟨rfl,hy⟩:=dR ey
   simp only[Option.some.injEq] at h
   subst h
   obtain⟨st,e1,e2⟩:=OO (runK (CC L2) 1) 1 x y hx hy
   exact⟨2,_,_,_,_,_,aQ VA rfl e1 e2,iX _ _,Wk.refl rfl,trivial⟩
  ·cases h
 ·cases h
noncomputable def HI:Code:=Tryz.f96.body.getD .skip
theorem ND (L:Lst)(run:aq)(k:Nat)(n:Bool)(a b:List Nat) :
  ∃ st,af (CC L) run k HI ⟨entry 26 [wh n a,wh (!n) b],[],[]⟩=some (.ret,st)∧aV TT st.fr st.hp Tryz.f96.results.toList=some [Ab.bC (bif n then -1 else 1)]:=by
 obtain⟨e1,e2,e3⟩:=cn 24 (wh n a) (wh (!n) b)
 generalize entry 26 [wh n a,wh (!n) b]=fr0 at *
 have e4:∀ n l,wh n l = .agg [.sc (.bool n),aL l]:=fun _ _=>rfl
 rw[e4] at e2 e3
 cases n
 ·simp[HI,Tryz.f96,e1,e2,e3,af,aH,an,ao,aG,ag,ai,aj,ak,aC,az,FP.none,aY,dB,av,bL,partOf,aa,ae,ab,bh,bm,uB,uW,sB,aB,wf0,wf1,aP,aU,aZ,br,aV,Ab.bC]
 ·simp[HI,Tryz.f96,e1,e2,e3,af,aH,an,ao,aG,ag,ai,aj,ak,aC,az,FP.none,aY,dB,av,bL,partOf,aa,ae,ab,bh,bm,uB,uW,sB,aB,wf0,wf1,aP,aU,aZ,br,aV,Ab.bC]
theorem NC (run:aq)(k:Nat)(n:Bool)(x y:Nat)(hla:(aA x).length<400000)(hlb:(aA y).length<400000) :
  ∃ st,af (CC L1) run k HI ⟨entry 26 [wh n (aA x),wh n (aA y)],[],[]⟩=some (.ret,st)∧aV TT st.fr st.hp Tryz.f96.results.toList=some [Ab.bC (bif n then dL y x else dL x y)]:=by
 have hc0:=fun hp dr=>nT run dr hp (aA x) (aA y) (bP _) (by omega) (bP _) (by omega)
 have hc1:=fun hp dr=>nT run dr hp (aA y) (aA x) (bP _) (by omega) (bP _) (by omega)
 rw[lp] at hc0 hc1
 obtain⟨e1,e2,e3⟩:=cn 24 (wh n (aA x)) (wh n (aA y))
 generalize entry 26 [wh n (aA x),wh n (aA y)]=fr0 at *
 have e4:∀ n l,wh n l = .agg [.sc (.bool n),aL l]:=fun _ _=>rfl
 rw[e4] at e2 e3
 simp only[Ab.bC] at hc0 hc1
 generalize dL x y=cc at *
 generalize dL y x=dd at *
 cases n
 ·simp[HI,Tryz.f96,e1,e2,e3,af,aH,an,ao,aG,ag,ai,aO,aj,ak,aC,az,FP.none,aY,dB,av,bL,partOf,aa,ae,ab,bh,bm,hc0,uB,uW,sD,sB,aD,aB,wf0,wf1,aP,aU,aZ,br,aV,Ab.bC]
 ·simp[HI,Tryz.f96,e1,e2,e3,af,aH,an,ao,aG,ag,ai,aO,aj,ak,aC,az,FP.none,aY,dB,av,bL,partOf,aa,ae,ab,bh,bm,hc1,uB,uW,sD,sB,aD,aB,wf0,wf1,aP,aU,aZ,br,aV,Ab.bC]
def fD (x y:Int):Int:=if x<y then -1 else if x=y then 0 else 1
theorem Uu (run:aq)(k:Nat)(x y:Int)(hx:Sm x)(hy:Sm y) :
  ∃ st,af (CC L1) run k HI ⟨entry 26 [bn x,bn y],[],[]⟩=some (.ret,st)∧aV TT st.fr st.hp Tryz.f96.results.toList=some [Ab.bC (fD x y)]:=by
 by_cases hn:bt x=bt y
 ·have:=NC run k (bt x) x.natAbs y.natAbs hx hy
  have e:(bif bt x then dL y.natAbs x.natAbs else dL x.natAbs y.natAbs)=fD x y:=by
   rw[cI,cI] at hn
   rw[cI]
   unfold fD dL
   by_cases hx:x<0 <;> by_cases hy:y<0 <;> simp[hx,hy] at hn ⊢
   ·by_cases h1:x<y
    ·rw[if_pos (by omega),if_pos h1]
    ·rw[if_neg (by omega),if_neg h1]
     by_cases h2:x=y
     ·rw[if_pos (by omega),if_pos h2]
     ·rw[if_neg (by omega),if_neg h2]
   ·by_cases h1:x<y
    ·rw[if_pos (by omega),if_pos h1]
    ·rw[if_neg (by omega),if_neg h1]
     by_cases h2:x=y
     ·rw[if_pos (by omega),if_pos h2]
     ·rw[if_neg (by omega),if_neg h2]
  rw[e] at this
  simp only[bn]
  rw[← hn];exact this
 ·have hn':bt y = !bt x:=by
   revert hn;cases bt x <;> cases bt y <;> simp
  have:=ND L1 run k (bt x) (aA x.natAbs) (aA y.natAbs)
  have e:(bif bt x then (-1:Int) else 1)=fD x y:=by
   rw[cI,cI] at hn
   rw[cI]
   unfold fD
   by_cases hx:x<0 <;> by_cases hy:y<0 <;> simp[hx,hy] at hn ⊢
   ·intro h;omega
   ·rw[if_neg (by omega),if_neg (by omega)]
  rw[e] at this
  simp only[bn]
  rw[hn'];exact this
def rM:List PV→Option (List PV)
 | [p,q]=>match fL p,fL q with
  | some x,some y=>some [Ab.bC (fD x y)]
  | _,_=>none
 | _=>none
theorem qf:Ab.Spec base.P 96 rM:=Ab.Spec.bN (C:=CC L1) (cU Ky) fun args rs h=>by
 unfold rM at h
 split at h
 ·split at h
  ·rename_i x y ex ey
   obtain⟨rfl,hx⟩:=dR ex
   obtain⟨rfl,hy⟩:=dR ey
   simp only[Option.some.injEq] at h
   subst h
   obtain⟨st,e1,e2⟩:=Uu (runK (CC L1) 1) 1 x y hx hy
   exact⟨2,_,_,_,_,_,aQ VF rfl e1 e2,eF _ _,Wk.refl rfl,trivial⟩
  ·cases h
 ·cases h
noncomputable def mulC:Code:=Tryz.f105.body.getD .skip
noncomputable def mH:Code:=((Tryz.f105.body).bind aF).getD .skip
noncomputable def MR:Code:=(aF mH).getD .skip
abbrev hpM (b0 b1 b2:Blk)(out:List Nat):List Blk:=[b0,b1,b2,⟨.live,out.map dg⟩]
theorem SA (L:Lst)(run:aq)(k:Nat)(fr:List PV)(hp:List Blk)(wr:List Nat)(n:Nat)(h78:fr.length=78)(h29:nth fr 29 = .sc (.int .i64 (n:Int)))(h30:nth fr 30 = .sc (.int .i64 (n:Int))) :
  ∃ fr',af (CC L) run k MR ⟨fr,hp,wr⟩=some (.exit 2,⟨fr',hp,wr⟩)∧fr'.length=78∧nth fr' 2=nth fr 2∧nth fr' 3=nth fr 3∧nth fr' 4=nth fr 4∧nth fr' 5=nth fr 5∧nth fr' 6=nth fr 6∧nth fr' 8=nth fr 8∧nth fr' 20=nth fr 20∧nth fr' 21=nth fr 21∧nth fr' 22=nth fr 22:=by
 simp[MR,mH,Tryz.f105,aF,af,aH,an,ao,aG,ag,ai,aj,ak,aC,az,FP.none,aY,au,bf,aa,ae,ab,h78,h29,h30]
set_option maxHeartbeats 4000000 in
theorem G8 (L:Lst)(run:aq)(k:Nat)(fr:List PV)(b0 b1 b2:Blk)(wr:List Nat)(b out:List Nat)(i j c x q r:Nat)(hb:Dok b)(ho:Dok out)(hx:x<1000000000)(hc:c<1000000000)(hj:j<b.length)(hij:i+j<out.length)(hl:out.length<1000000)
  (h78:fr.length=78) (h5:nth fr 5 = .own 3 1 0 out.length true) (h6:nth fr 6 = .sc (.int .i64 (i:Int))) (h7:nth fr 7 = .sc (.int .u32 (x:Int))) (h8:nth fr 8 = .sc (.int .u64 (c:Int)))
  (h28:nth fr 28=aL b) (h29:nth fr 29 = .sc (.int .i64 (b.length:Int))) (h30:nth fr 30 = .sc (.int .i64 (j:Int))) (hr:r=(c+(x*at0 b j+at0 out (i+j))) % 1000000000) (hq:q=(c+(x*at0 b j+at0 out (i+j))) / 1000000000) :
  ∃ fr' wr',af (CC L) run k MR ⟨fr,hpM b0 b1 b2 out,wr⟩=some (.normal,⟨fr',hpM b0 b1 b2 (out.set (i+j) r),wr'⟩)∧fr'.length=78∧nth fr' 8 = .sc (.int .u64 (q:Int))∧nth fr' 30 = .sc (.int .i64 ((j+1:Nat):Int))
   ∧ nth fr' 2=nth fr 2∧nth fr' 3=nth fr 3∧nth fr' 4=nth fr 4∧nth fr' 5=nth fr 5∧nth fr' 6=nth fr 6∧nth fr' 7=nth fr 7∧nth fr' 20=nth fr 20∧nth fr' 21=nth fr 21∧nth fr' 22=nth fr 22∧nth fr' 28=nth fr 28∧nth fr' 29=nth fr 29:=by
 have hdb:=eK b j hj
 have hdo:=eK out (i+j) hij
 have hby:=hb.get hj
 have hoy:=ho.get hij
 have hov:=iM out (i+j) r hij
 rw[cY hj,cY hij] at hr hq
 generalize b[j]=y at *
 generalize out[i+j]=o at *
 have e2:aL b = .imm b.length false (b.map dg):=rfl
 have hdy:dg y = .sc (.int .u32 (y:Int)):=rfl
 have hdo':dg o = .sc (.int .u32 (o:Int)):=rfl
 rw[e2] at h28;rw[hdy] at hdb;rw[hdo'] at hdo
 have hxy:x*y≤999999999*999999999:=Nat.mul_le_mul (by omega) (by omega)
 obtain⟨s1,hs1⟩:∃ s1,s1=x*y:=⟨_,rfl⟩
 rw[← hs1] at hr hq hxy
 obtain⟨s2,hs2⟩:∃ s2,s2=s1+o:=⟨_,rfl⟩
 rw[← hs2] at hr hq
 obtain⟨s3,hs3⟩:∃ s3,s3=c+s2:=⟨_,rfl⟩
 rw[← hs3] at hr hq
 have hw0:=ch .u64 x (dt (by omega))
 have hw1:=ch .u64 y (dt (by omega))
 have hw2:=ch .u64 o (dt (by omega))
 have hw3:=wrapM .u64 x y s1 hs1 (dt (by omega))
 have hw4:=dq .u64 s1 o s2 hs2 (dt (by omega))
 have hw5:=dq .u64 c s2 s3 hs3 (dt (by omega))
 have hw6:=ji .u64 s3 q hq (dt (by omega))
 have hw9:bA .u32 (r:Int)=(r:Int):=ch .u32 r (im (by omega))
 have hw7:=dq .i64 i j (i+j) rfl (hiI (by omega))
 obtain⟨p,hp⟩:∃ p,p=i+j:=⟨_,rfl⟩
 have hwj:=bJ j (by omega)
 rw[← hp] at hw7 hdo hov hij ⊢
 have hw8:=kK s3 r hr
 simp[MR,mH,Tryz.f105,aF,af,aH,an,ao,aG,ag,ai,aj,ak,aC,az,FP.none,aY,au,bf,av,bg,bk,partOf,aa,ae,ab,bh,and_assoc,bc,dj,fZ,h78,h5,h6,h7,h8,h28,h29,h30,uD,u32,u64,s32,a32,dy,hj,hij,hdb,hdo,aU,aZ,cf,hw0,hw1,hw2,hw3,hw4,hw5,hw6,hw7,hw8,hw9,hwj,hov,gM r]
theorem gi {l:List Nat}{p m y:Nat}(h:p≠m):at0 (l.set p y) m=at0 l m:=by
 simp[at0,List.getElem?_set_ne h]
theorem BO (l:List Nat)(p y:Nat)(h:p<l.length):val (l.set p y)+at0 l p*1000000000 ^ p=val l+y*1000000000 ^ p:=by
 rw[cY h];exact pa l p y h
theorem Sn {V0 vo vo' c x y o P Q q r vb:Nat}(h:vo+c*P=V0+x*vb*Q)(hv:vo'+o*P=vo+r*P)(hr:r=(c+(x*y+o)) % 1000000000)(hq:q=(c+(x*y+o)) / 1000000000)(R:Nat)(hP:P=R*Q) :
  vo'+q*(P*1000000000)=V0+x*(vb+y*R)*Q:=by
 have e:c+(x*y+o)=r+1000000000*q:=by omega
 have e2:(c+(x*y+o))*P=(r+1000000000*q)*P:=by rw[e]
 simp only[Nat.add_mul] at e2
 have e3:1000000000*q*P=q*(P*1000000000):=by grind
 have e4:x*(vb+y*R)*Q=x*vb*Q+x*y*P:=by subst hP;grind
 rw[e4]
 omega
def Kept (fr fr':List PV):Prop:=nth fr' 2=nth fr 2∧nth fr' 3=nth fr 3∧nth fr' 4=nth fr 4∧nth fr' 5=nth fr 5∧nth fr' 6=nth fr 6∧nth fr' 20=nth fr 20∧nth fr' 21=nth fr 21∧nth fr' 22=nth fr 22
theorem zh (L:Lst)(run:aq)(k:Nat)(b0 b1 b2:Blk)(b:List Nat)(i x V0:Nat)(hb:Dok b)(hx:x<1000000000):∀ (n j:Nat) (fr:List PV) (wr:List Nat) (out:List Nat) (c:Nat),j+n=b.length→Dok out→c<1000000000→i+b.length≤out.length→out.length<1000000 →
  fr.length=78→nth fr 5 = .own 3 1 0 out.length true→nth fr 6 = .sc (.int .i64 (i:Int))→nth fr 7 = .sc (.int .u32 (x:Int))→nth fr 8 = .sc (.int .u64 (c:Int)) →
  nth fr 28=aL b→nth fr 29 = .sc (.int .i64 (b.length:Int))→nth fr 30 = .sc (.int .i64 (j:Int))→val out+c*1000000000 ^ (i+j)=V0+x*val (b.take j)*1000000000 ^ i →
  ∃ (fr':List PV) (wr':List Nat) (out':List Nat) (c':Nat),ca (af (CC L) run k MR) (n+1) ⟨fr,hpM b0 b1 b2 out,wr⟩=some (.exit 2,⟨fr',hpM b0 b1 b2 out',wr'⟩)∧fr'.length=78∧Kept fr fr'∧nth fr' 8 = .sc (.int .u64 (c':Int))
   ∧ Dok out'∧c'<1000000000∧out'.length=out.length∧val out'+c'*1000000000 ^ (i+b.length)=V0+x*val b*1000000000 ^ i∧∀ m,i+b.length≤m→at0 out' m=at0 out m
 | 0,j,fr,wr,out,c,hj,ho,hc,hil,hl,h78,h5,h6,h7,h8,h28,h29,h30,hv=>by
  have:j=b.length:=by omega
  subst this
  obtain⟨fr',g1,g2,g3,g4,g5,g6,g7,g8,g9,g10,g11⟩:=SA L run k fr (hpM b0 b1 b2 out) wr b.length h78 h29 h30
  exact⟨fr',wr,out,c,bz g1,g2,⟨g3,g4,g5,g6,g7,g9,g10,g11⟩,by rw[g8,h8],ho,hc,rfl,by rw[hv,List.take_length],fun m _=>rfl⟩
 | n+1,j,fr,wr,out,c,hj,ho,hc,hil,hl,h78,h5,h6,h7,h8,h28,h29,h30,hv=>by
  have hy:=cj hb j
  have hoo:=cj ho (i+j)
  have hxy:x*at0 b j≤999999999*999999999:=Nat.mul_le_mul (by omega) (by omega)
  obtain⟨fr1,wr1,g1,g2,g3,g4,g5,g6,g7,g8,g9,g10,g11,g12,g13,g14,g15⟩:=G8 L run k fr b0 b1 b2 wr b out i j c x _ _ hb ho hx hc (by omega) (by omega) hl h78 h5 h6 h7 h8 h28 h29 h30 rfl rfl
  obtain⟨fr',wr',out',c',q1,q2,q3,q4,q5,q6,q7,q8,q9⟩:=zh L run k b0 b1 b2 b i x V0 hb hx n (j+1) fr1 wr1 _ _ (by omega) (ho.set (i+j) (Nat.mod_lt _ (by omega)))
   (show (c+(x*at0 b j+at0 out (i+j))) / 1000000000<1000000000 by omega) (by rw[List.length_set];exact hil) (by rw[List.length_set];exact hl) g2 (by rw[g8,h5,List.length_set]) (by rw[g9,h6]) (by rw[g10,h7]) g3 (by rw[g14,h28]) (by rw[g15,h29]) g4
   (by
    have hvs:=BO out (i+j) ((c+(x*at0 b j+at0 out (i+j))) % 1000000000) (by omega)
    rw[cq,show i+(j+1)=i+j+1 by omega,Nat.pow_succ]
    exact Sn hv hvs rfl rfl (1000000000 ^ j) (by rw[Nat.pow_add,Nat.mul_comm]))
  obtain⟨k1,k2,k3,k4,k5,k6,k7,k8⟩:=q3
  refine⟨fr',wr',out',c',by rw[bU g1];exact q1,q2,⟨by rw[k1,g5],by rw[k2,g6],by rw[k3,g7],by rw[k4,g8],by rw[k5,g9],by rw[k6,g11],by rw[k7,g12],by rw[k8,g13]⟩,q4,q5,q6,by rw[q7,List.length_set],q8,fun m hm => ?_⟩
  rw[q9 m hm,gi (by omega)]
noncomputable def od:Code:=match ah 2 mH with | .seq (.block _ c) _=>c | c=>c
noncomputable def Sz:Code:=match ah 2 mH with | .seq _ c=>c | c=>c
theorem G6:ah 2 mH = .seq (.block 1 od) Sz:=rfl
noncomputable def Ss:Code:=seq1 (seq1 (ah 2 od))
theorem Dt:ah 2 od = .seq (.seq Ss (.block 2 (.loop MR))) (ah 3 od):=rfl
theorem Sx (L:Lst)(run:aq)(k:Nat)(fr:List PV)(hp:List Blk)(wr:List Nat)(n:Nat)(h78:fr.length=78)(h21:nth fr 21 = .sc (.int .i64 (n:Int)))(h22:nth fr 22 = .sc (.int .i64 (n:Int))) :
  ∃ fr',af (CC L) run k mH ⟨fr,hp,wr⟩=some (.exit 0,⟨fr',hp,wr⟩)∧fr'.length=78∧nth fr' 2=nth fr 2∧nth fr' 3=nth fr 3∧nth fr' 4=nth fr 4∧nth fr' 5=nth fr 5:=by
 simp[mH,Tryz.f105,aF,af,aH,an,ao,aG,ag,ai,aj,ak,aC,az,FP.none,aY,au,bf,aa,ae,ab,h78,h21,h22]
theorem Sw (L:Lst)(run:aq)(k:Nat)(fr:List PV)(hp:List Blk)(wr:List Nat)(i n:Nat)(hi:i<n)(h78:fr.length=78)(h21:nth fr 21 = .sc (.int .i64 (n:Int)))(h22:nth fr 22 = .sc (.int .i64 (i:Int))) :
  ∃ fr',aX (CC L) run k 2 mH ⟨fr,hp,wr⟩=some ⟨fr',hp,wr⟩∧fr'.length=78∧nth fr' 2=nth fr 2∧nth fr' 3=nth fr 3∧nth fr' 4=nth fr 4∧nth fr' 5=nth fr 5∧nth fr' 20=nth fr 20∧nth fr' 21=nth fr 21∧nth fr' 22=nth fr 22:=by
 simp[mH,Tryz.f105,aF,aX,af,aH,an,ao,aG,ag,ai,aj,ak,aC,az,FP.none,aY,au,bf,aa,ae,ab,h78,h21,h22,hi]
theorem MQ (L:Lst)(run:aq)(k:Nat)(fr:List PV)(hp:List Blk)(wr:List Nat)(a:List Nat)(i:Nat)(hi:i<a.length)(h78:fr.length=78)(h20:nth fr 20=aL a)(h22:nth fr 22 = .sc (.int .i64 (i:Int))) :
  ∃ fr',aX (CC L) run k 2 od ⟨fr,hp,wr⟩=some ⟨fr',hp,wr⟩∧fr'.length=78∧nth fr' 6 = .sc (.int .i64 (i:Int))∧nth fr' 7 = .sc (.int .u32 (at0 a i:Int))∧nth fr' 8 = .sc (.int .u64 (0:Nat))∧nth fr' 2=nth fr 2∧nth fr' 3=nth fr 3∧nth fr' 4=nth fr 4∧nth fr' 5=nth fr 5∧nth fr' 20=nth fr 20∧nth fr' 21=nth fr 21∧nth fr' 22=nth fr 22:=by
 have hda:=eK a i hi
 rw[cY hi]
 generalize a[i]=x at *
 have e2:aL a = .imm a.length false (a.map dg):=rfl
 have hdx:dg x = .sc (.int .u32 (x:Int)):=rfl
 rw[e2] at h20;rw[hdx] at hda
 simp[od,mH,Tryz.f105,aF,ah,aX,af,aH,an,ao,aG,ag,ai,aj,ak,aC,az,FP.none,av,bg,bk,partOf,aa,ae,ab,bh,h78,h20,h22,hi,uD,s32,a32,hda,aU]
theorem Sr (L:Lst)(run:aq)(k:Nat)(fr:List PV)(b0 b2 b3:Blk)(wr:List Nat)(nb:Bool)(b:List Nat)(h78:fr.length=78)(h3:nth fr 3 = .ptr 1 0) :
  ∃ fr',af (CC L) run k Ss ⟨fr,[b0,⟨.live,[.sc (.bool nb),aL b]⟩,b2,b3],wr⟩=some (.normal,⟨fr',[b0,⟨.live,[.sc (.bool nb),aL b]⟩,b2,b3],wr⟩)∧fr'.length=78∧nth fr' 28=aL b∧nth fr' 29 = .sc (.int .i64 (b.length:Int))∧nth fr' 30 = .sc (.int .i64 (0:Nat))
   ∧ nth fr' 2=nth fr 2∧nth fr' 3=nth fr 3∧nth fr' 4=nth fr 4∧nth fr' 5=nth fr 5∧nth fr' 6=nth fr 6∧nth fr' 7=nth fr 7∧nth fr' 8=nth fr 8∧nth fr' 20=nth fr 20∧nth fr' 21=nth fr 21∧nth fr' 22=nth fr 22:=by
 simp[Ss,od,mH,Tryz.f105,aF,ah,seq1,af,aH,an,ao,aG,ag,ai,aj,ak,aC,az,FP.none,av,bK,bL,partOf,aa,ae,ab,bh,cg,h78,h3,uW,uD,sD,aD,wf0,wf1,aU,aZ,br]
theorem Sv (L:Lst)(run:aq)(k:Nat)(fr:List PV)(b0 b2:Blk)(wr:List Nat)(nb:Bool)(b out:List Nat)(i c:Nat)(hc:c<1000000000)(hi:i+b.length<out.length)(hl:out.length<1000000)
  (h78:fr.length=78) (h3:nth fr 3 = .ptr 1 0) (h5:nth fr 5 = .own 3 1 0 out.length true) (h6:nth fr 6 = .sc (.int .i64 (i:Int))) (h8:nth fr 8 = .sc (.int .u64 (c:Int))) :
  ∃ fr' wr',af (CC L) run k (ah 3 od) ⟨fr,hpM b0 ⟨.live,[.sc (.bool nb),aL b]⟩ b2 out,wr⟩=some (.normal,⟨fr',hpM b0 ⟨.live,[.sc (.bool nb),aL b]⟩ b2 (out.set (i+b.length) c),wr'⟩)∧fr'.length=78
   ∧ nth fr' 2=nth fr 2∧nth fr' 3=nth fr 3∧nth fr' 4=nth fr 4∧nth fr' 5=nth fr 5∧nth fr' 20=nth fr 20∧nth fr' 21=nth fr 21∧nth fr' 22=nth fr 22:=by
 have hw7:=dq .i64 i b.length (i+b.length) rfl (hiI (by omega))
 have hov:=iM out (i+b.length) c hi
 have hw9:bA .u32 (c:Int)=(c:Int):=ch .u32 c (im (by omega))
 obtain⟨p,hp⟩:∃ p,p=i+b.length:=⟨_,rfl⟩
 rw[← hp] at hw7 hov hi ⊢
 simp[od,mH,Tryz.f105,aF,ah,af,aH,an,ao,aG,ag,ai,aj,ak,aC,az,FP.none,aY,au,bf,bK,bg,bL,bk,partOf,aa,ae,ab,bh,and_assoc,cg,bc,dj,fZ,h78,h3,h5,h6,h8,uW,uD,u32,u64,sD,s32,aD,wf0,wf1,dy,aU,aZ,cf,br,hw7,hw9,hov,hi,gM c]
theorem Sy (L:Lst)(run:aq)(k:Nat)(fr:List PV)(hp:List Blk)(wr:List Nat)(i:Nat)(hi:i<1000000)(h78:fr.length=78)(h22:nth fr 22 = .sc (.int .i64 (i:Int))) :
  ∃ fr',af (CC L) run k Sz ⟨fr,hp,wr⟩=some (.normal,⟨fr',hp,wr⟩)∧fr'.length=78∧nth fr' 22 = .sc (.int .i64 ((i+1:Nat):Int))∧nth fr' 2=nth fr 2∧nth fr' 3=nth fr 3∧nth fr' 4=nth fr 4∧nth fr' 5=nth fr 5∧nth fr' 20=nth fr 20∧nth fr' 21=nth fr 21:=by
 have hw:=bJ i (by omega)
 simp[Sz,mH,Tryz.f105,aF,ah,af,aH,an,ao,aG,ag,ai,aj,ak,aC,az,FP.none,aY,au,bf,av,aa,ae,ab,h78,h22,hw]
theorem G7 (L:Lst)(run:aq)(k:Nat)(fr:List PV)(b0 b2:Blk)(wr:List Nat)(nb:Bool)(a b out:List Nat)(i:Nat)(ha:Dok a)(hb:Dok b)(ho:Dok out)(hi:i<a.length)(hil:out.length=a.length+b.length)(hl:out.length<1000000)(hk:b.length<k)
  (h78:fr.length=78) (h3:nth fr 3 = .ptr 1 0) (h5:nth fr 5 = .own 3 1 0 out.length true) (h20:nth fr 20=aL a) (h21:nth fr 21 = .sc (.int .i64 (a.length:Int))) (h22:nth fr 22 = .sc (.int .i64 (i:Int)))
  (hz:∀ m,i+b.length≤m→at0 out m=0) (hv:val out=val (a.take i)*val b) :
  ∃ (fr':List PV) (wr':List Nat) (out':List Nat),af (CC L) run k mH ⟨fr,hpM b0 ⟨.live,[.sc (.bool nb),aL b]⟩ b2 out,wr⟩=some (.normal,⟨fr',hpM b0 ⟨.live,[.sc (.bool nb),aL b]⟩ b2 out',wr'⟩)∧fr'.length=78
   ∧ nth fr' 2=nth fr 2∧nth fr' 3 = .ptr 1 0∧nth fr' 4=nth fr 4∧nth fr' 5 = .own 3 1 0 out'.length true∧nth fr' 20=aL a∧nth fr' 21 = .sc (.int .i64 (a.length:Int))∧nth fr' 22 = .sc (.int .i64 ((i+1:Nat):Int))
   ∧ Dok out'∧out'.length=out.length∧(∀ m,i+1+b.length≤m→at0 out' m=0)∧val out'=val (a.take (i+1))*val b:=by
 obtain⟨f1,p1,p2,p3,p4,p5,p6,p7,p8,p9⟩:=Sw L run k fr (hpM b0 ⟨.live,[.sc (.bool nb),aL b]⟩ b2 out) wr i a.length hi h78 h21 h22
 obtain⟨f2,q1,q2,q3,q4,q5,q6,q7,q8,q9,q10,q11,q12⟩:=MQ L run k f1 (hpM b0 ⟨.live,[.sc (.bool nb),aL b]⟩ b2 out) wr a i hi p2 (by rw[p7,h20]) (by rw[p9,h22])
 obtain⟨f3,r1,r2,r3,r4,r5,r6,r7,r8,r9,r10,r11,r12,r13,r14,r15⟩:=Sr L run k f2 b0 b2 ⟨.live,out.map dg⟩ wr nb b q2 (by rw[q7,p4,h3])
 have hx:=cj ha i
 obtain⟨f4,wr4,out4,c,t1,t2,t3,t4,t5,t6,t7,t8,t9⟩:=zh L run k b0 ⟨.live,[.sc (.bool nb),aL b]⟩ b2 b i (at0 a i) (val (a.take i)*val b) hb hx b.length 0 f3 wr out 0 (by omega) ho (by omega) (by omega) hl r2
  (by rw[r9,q9,p6,h5]) (by rw[r10,q3]) (by rw[r11,q4]) (by rw[r12,q5]) r3 r4 r5 (by rw[List.take_zero,hv];simp[val])
 obtain⟨k1,k2,k3,k4,k5,k6,k7,k8⟩:=t3
 have h54:nth f4 5 = .own 3 1 0 out4.length true:=by rw[k4,r9,q9,p6,h5,t7]
 obtain⟨f5,wr5,u1,u2,u3,u4,u5,u6,u7,u8,u9⟩:=Sv L run k f4 b0 b2 wr4 nb b out4 i c t6 (by omega) (by omega) t2 (by rw[k2,r7,q7,p4,h3]) h54 (by rw[k5,r10,q3]) t4
 obtain⟨f6,w1,w2,w3,w4,w5,w6,w7,w8,w9⟩:=Sy L run k f5 (hpM b0 ⟨.live,[.sc (.bool nb),aL b]⟩ b2 (out4.set (i+b.length) c)) wr5 i (by omega) u2 (by rw[u9,k8,r15,q12,p9,h22])
 refine⟨f6,wr5,out4.set (i+b.length) c,?_,w2,?_,?_,?_,?_,?_,?_,w3,t5.set _ t6,?_,?_,?_⟩
 ·rw[aM 2 p1,G6]
  have hB:af (CC L) run k od ⟨f1,hpM b0 ⟨.live,[.sc (.bool nb),aL b]⟩ b2 out,wr⟩=some (.normal,⟨f5,hpM b0 ⟨.live,[.sc (.bool nb),aL b]⟩ b2 (out4.set (i+b.length) c),wr5⟩):=by
   rw[aM 2 q1,Dt,aw ((aw r1).trans (bF (bT t1 (by omega))))]
   exact u1
  rw[aw (fA hB)]
  exact w1
 ·rw[w4,u3,k1,r6,q6,p3]
 ·rw[w5,u4,k2,r7,q7,p4,h3]
 ·rw[w6,u5,k3,r8,q8,p5]
 ·rw[w7,u6,h54,List.length_set]
 ·rw[w8,u7,k6,r13,q10,p7,h20]
 ·rw[w9,u8,k7,r14,q11,p8,h21]
 ·rw[List.length_set,t7]
 ·intro m hm
  rw[gi (by omega),t9 m (by omega),hz m (by omega)]
 ·have hs:=BO out4 (i+b.length) c (by omega)
  rw[t9 _ (Nat.le_refl _),hz _ (Nat.le_refl _),Nat.zero_mul,Nat.add_zero,t8] at hs
  rw[hs,cq,Nat.add_mul]
  grind
theorem zg (L:Lst)(run:aq)(k:Nat)(b0 b2:Blk)(nb:Bool)(a b:List Nat)(ha:Dok a)(hb:Dok b)(hl:a.length+b.length<1000000)(hk:b.length<k):∀ (n i:Nat) (fr:List PV) (wr:List Nat) (out:List Nat),i+n=a.length→Dok out→out.length=a.length+b.length →
  fr.length=78→nth fr 3 = .ptr 1 0→nth fr 5 = .own 3 1 0 out.length true→nth fr 20=aL a→nth fr 21 = .sc (.int .i64 (a.length:Int))→nth fr 22 = .sc (.int .i64 (i:Int))→(∀ m,i+b.length≤m→at0 out m=0)→val out=val (a.take i)*val b →
  ∃ (fr':List PV) (wr':List Nat) (out':List Nat),ca (af (CC L) run k mH) (n+1) ⟨fr,hpM b0 ⟨.live,[.sc (.bool nb),aL b]⟩ b2 out,wr⟩=some (.exit 0,⟨fr',hpM b0 ⟨.live,[.sc (.bool nb),aL b]⟩ b2 out',wr'⟩)∧fr'.length=78
   ∧ nth fr' 2=nth fr 2∧nth fr' 3 = .ptr 1 0∧nth fr' 4=nth fr 4∧nth fr' 5 = .own 3 1 0 out'.length true∧Dok out'∧out'.length=a.length+b.length∧val out'=val a*val b
 | 0,i,fr,wr,out,hi,ho,hil,h78,h3,h5,h20,h21,h22,hz,hv=>by
  have:i=a.length:=by omega
  subst this
  obtain⟨fr',g1,g2,g3,g4,g5,g6⟩:=Sx L run k fr (hpM b0 ⟨.live,[.sc (.bool nb),aL b]⟩ b2 out) wr a.length h78 h21 h22
  exact⟨fr',wr,out,bz g1,g2,g3,by rw[g4,h3],g5,by rw[g6,h5],ho,hil,by rw[hv,List.take_length]⟩
 | n+1,i,fr,wr,out,hi,ho,hil,h78,h3,h5,h20,h21,h22,hz,hv=>by
  obtain⟨f1,wr1,G3,g1,g2,g3,g4,g5,g6,g7,g8,g9,g10,g11,g12,g13⟩:=G7 L run k fr b0 b2 wr nb a b out i ha hb ho (by omega) hil (by omega) hk h78 h3 h5 h20 h21 h22 hz hv
  obtain⟨fr',wr',out',q1,q2,q3,q4,q5,q6⟩:=zg L run k b0 b2 nb a b ha hb hl hk n (i+1) f1 wr1 G3 (by omega) g10 (by omega) g2 g4 g6 g7 g8 g9 g12 g13
  exact⟨fr',wr',out',by rw[bU g1];exact q1,q2,by rw[q3,g3],q4,by rw[q5,g5],q6⟩
noncomputable def Su:Code:=seq1 (seq1 (ah 2 mulC))
theorem MP:ah 2 mulC = .seq (.seq Su (.block 0 (.loop mH))) (ah 3 mulC):=rfl
theorem Yv (L:Lst)(run:aq)(k:Nat)(na nb:Bool)(a b:List Nat)(hl:a.length+b.length<1000000) :
  ∃ fr wr,aX (CC L) run k 2 mulC ⟨entry 78 [wh na a,wh nb b],[],[]⟩=some ⟨fr,hpM ⟨.live,[.sc (.bool na),aL a]⟩ ⟨.live,[.sc (.bool nb),aL b]⟩ ⟨.live,[.sc (.bool false),.sc (.slice none 0 0)]⟩ (List.replicate (a.length+b.length) 0),wr⟩∧fr.length=78
   ∧ nth fr 2 = .ptr 0 0∧nth fr 3 = .ptr 1 0∧nth fr 4 = .ptr 2 0∧nth fr 5 = .own 3 1 0 (a.length+b.length) true:=by
 obtain⟨e1,e2,e3⟩:=cn 76 (wh na a) (wh nb b)
 generalize entry 78 [wh na a,wh nb b]=fr0 at *
 have e4:∀ n l,wh n l = .agg [.sc (.bool n),aL l]:=fun _ _=>rfl
 rw[e4] at e2 e3
 have hw7:=dq .i64 a.length b.length (a.length+b.length) rfl (hiI (by omega))
 rw[show hpM ⟨.live,[.sc (.bool na),aL a]⟩ ⟨.live,[.sc (.bool nb),aL b]⟩ ⟨.live,[.sc (.bool false),.sc (.slice none 0 0)]⟩ (List.replicate (a.length+b.length) 0)=[⟨.live,[.sc (.bool na),aL a]⟩,⟨.live,[.sc (.bool nb),aL b]⟩,⟨.live,[.sc (.bool false),.sc (.slice none 0 0)]⟩,⟨.live,rep (a.length+b.length) [dg 0]⟩] by rw[qW]]
 have h1:a.length+b.length≤cL:=Nat.le_trans (Nat.le_of_lt hl) (by decide)
 generalize hp:a.length+b.length=p at *
 simp[mulC,Tryz.f105,aX,e1,e2,e3,af,aH,an,ao,aG,ag,ai,aj,ak,aC,az,FP.none,aY,au,bf,bK,bL,bk,partOf,aa,ae,ab,bh,and_assoc,cg,bm,uD,uW,sD,s32,b32,z32,zW,aD,wf0,wf1,aP,aU,aZ,br,hw7,bZ,h1]
theorem acw (L:Lst)(run:aq)(k:Nat)(fr:List PV)(b1 b2 b3:Blk)(wr:List Nat)(na:Bool)(a:List Nat)(h78:fr.length=78)(h2:nth fr 2 = .ptr 0 0) :
  ∃ fr',af (CC L) run k Su ⟨fr,[⟨.live,[.sc (.bool na),aL a]⟩,b1,b2,b3],wr⟩=some (.normal,⟨fr',[⟨.live,[.sc (.bool na),aL a]⟩,b1,b2,b3],wr⟩)∧fr'.length=78∧nth fr' 20=aL a∧nth fr' 21 = .sc (.int .i64 (a.length:Int))∧nth fr' 22 = .sc (.int .i64 (0:Nat))
   ∧ nth fr' 2=nth fr 2∧nth fr' 3=nth fr 3∧nth fr' 4=nth fr 4∧nth fr' 5=nth fr 5:=by
 simp[Su,mulC,Tryz.f105,ah,seq1,af,aH,an,ao,aG,ag,ai,aj,ak,aC,az,FP.none,av,bK,bL,partOf,aa,ae,ab,bh,cg,h78,h2,uW,uD,sD,aD,wf0,wf1,aU,aZ,br]
theorem tC (run:aq)(dr:Bool)(b0 b1 b2:Blk)(n:Bool)(l:List Nat)(hd:Dok l)(hl:l.length<1000000) :
  cb (CC L1) run dr (hpM b0 b1 b2 l) 152 [.sc (.bool n),.own 3 1 0 l.length true]=some (bn (sgn n (val l)),[b0,b1,b2,⟨.ro,l.map dg⟩],⟨[3],[3],false,false⟩):=by
 have h1:bq (snap (hpM b0 b1 b2 l) bj) [.sc (.bool n),.own 3 1 0 l.length true]=some ([.sc (.bool n),.imm l.length true (l.map dg)],[3]):=by
  have hs:=jE (hpM b0 b1 b2 l) 10 l
  have:snap (hpM b0 b1 b2 l) 12 (.own 3 1 0 l.length true)=some (.imm l.length true (l.map dg),[3]):=by
   rw[snap]
   have h:aZ (hpM b0 b1 b2 l) 3=some ⟨.live,l.map dg⟩:=rfl
   simp only[h]
   rw[if_neg (by simp),BT]
   simp only[hs]
  simp only[bj,bq,this]
  rfl
 have h2:aJ [.sc (.bool n),.imm l.length true (l.map dg)]=[.sc (.bool n),aL l]:=by
  simp only[aJ,canon,iC];rfl
 have h3:(CC L1).orc 152 [.sc (.bool n),.imm l.length true (l.map dg)]=some [bn (sgn n (val l))]:=by
  show fP (aJ [.sc (.bool n),.imm l.length true (l.map dg)])=_
  rw[h2]
  simp only[fP,cS hd hl]
 have:=ee (run:=run) (dr:=dr) nB h1 h3 rfl
 rw[this]
 rfl
theorem So (run:aq)(k:Nat)(fr:List PV)(wr:List Nat)(na nb:Bool)(a b out:List Nat)(hd:Dok out)(hl:out.length<1000000)(h78:fr.length=78)(h2:nth fr 2 = .ptr 0 0)(h3:nth fr 3 = .ptr 1 0)(h4:nth fr 4 = .ptr 2 0)(h5:nth fr 5 = .own 3 1 0 out.length true) :
  ∃ st,af (CC L1) run k (ah 3 mulC) ⟨fr,hpM ⟨.live,[.sc (.bool na),aL a]⟩ ⟨.live,[.sc (.bool nb),aL b]⟩ ⟨.live,[.sc (.bool false),.sc (.slice none 0 0)]⟩ out,wr⟩=some (.ret,st)∧aV TT st.fr st.hp Tryz.f105.results.toList=some [bn (sgn (na != nb) (val out))]:=by
 have hc:=fun dr=>tC run dr ⟨.live,[.sc (.bool na),aL a]⟩ ⟨.live,[.sc (.bool nb),aL b]⟩ ⟨.live,[.sc (.bool false),.sc (.slice none 0 0)]⟩ (na != nb) out hd hl
 simp only[whW] at hc ⊢
 generalize aA (sgn (na != nb) (val out)).natAbs=r at *
 generalize bt (sgn (na != nb) (val out))=nn at *
 cases na <;> cases nb <;> simp only[bne_self_eq_false,Bool.bne_true,Bool.bne_false,Bool.not_false] at hc <;>
  simp[mulC,Tryz.f105,ah,af,aH,an,ao,aG,ag,ai,aO,aj,ak,aC,az,FP.none,aY,dB,bL,partOf,aa,ae,ab,bh,bm,bS,bD,bc,hc,h78,h2,h3,h4,h5,uB,uW,sB,sW,aB,aW,wf0,wf1,aU,aZ,cf,br,bX,bE,aV]
theorem WD (x y:Int):sgn (bt x != bt y) (x.natAbs*y.natAbs)=x*y:=by
 rw[qP,cI,cI,Int.natCast_mul]
 by_cases hx:x<0 <;> by_cases hy:y<0
 ·have e1:(x.natAbs:Int) = -x:=by omega
  have e2:(y.natAbs:Int) = -y:=by omega
  simp[hx,hy,e1,e2,Int.neg_mul,Int.mul_neg]
 ·have e1:(x.natAbs:Int) = -x:=by omega
  have e2:(y.natAbs:Int)=y:=by omega
  simp[hx,hy,e1,e2,Int.neg_mul]
 ·have e1:(x.natAbs:Int)=x:=by omega
  have e2:(y.natAbs:Int) = -y:=by omega
  simp[hx,hy,e1,e2,Int.mul_neg]
 ·have e1:(x.natAbs:Int)=x:=by omega
  have e2:(y.natAbs:Int)=y:=by omega
  simp[hx,hy,e1,e2]
theorem N1 (n m:Nat):at0 (List.replicate n 0) m=0:=by
 by_cases h:m<n
 ·simp[at0,h]
 ·simp[at0,h]
def G9:List PV→Option (List PV)
 | [p,q]=>match fL p,fL q with
  | some x,some y=>some [bn (x*y)]
  | _,_=>none
 | _=>none
theorem Sp (run:aq)(k:Nat)(x y:Int)(hx:Sm x)(hy:Sm y)(hk:(aA x.natAbs).length<k)(hk2:(aA y.natAbs).length<k) :
  ∃ st,af (CC L1) run k mulC ⟨entry 78 [bn x,bn y],[],[]⟩=some (.ret,st)∧aV TT st.fr st.hp Tryz.f105.results.toList=some [bn (x*y)]:=by
 have hl:(aA x.natAbs).length+(aA y.natAbs).length<1000000:=by unfold Sm at hx hy;omega
 obtain⟨f1,wr1,p1,p2,p3,p4,p5,p6⟩:=Yv L1 run k (bt x) (bt y) (aA x.natAbs) (aA y.natAbs) hl
 obtain⟨f2,q1,q2,q3,q4,q5,q6,q7,q8,q9⟩:=acw L1 run k f1 ⟨.live,[.sc (.bool (bt y)),aL (aA y.natAbs)]⟩ ⟨.live,[.sc (.bool false),.sc (.slice none 0 0)]⟩ ⟨.live,(List.replicate ((aA x.natAbs).length+(aA y.natAbs).length) 0).map dg⟩ wr1 (bt x) (aA x.natAbs) p2 p3
 obtain⟨f3,wr3,out,r1,r2,r3,r4,r5,r6,r7,r8,r9⟩:=zg L1 run k ⟨.live,[.sc (.bool (bt x)),aL (aA x.natAbs)]⟩ ⟨.live,[.sc (.bool false),.sc (.slice none 0 0)]⟩ (bt y) (aA x.natAbs) (aA y.natAbs) (bP _) (bP _) hl hk2 (aA x.natAbs).length 0 f2 wr1 (List.replicate ((aA x.natAbs).length+(aA y.natAbs).length) 0)
  (by omega) (Dok.IC _) (by simp) q2 (by rw[q7,p4]) (by rw[q9,p6,List.length_replicate]) q3 q4 q5 (fun m _=>N1 _ _) (by rw[nm];simp[val])
 obtain⟨st,e1,e2⟩:=So run k f3 wr3 (bt x) (bt y) (aA x.natAbs) (aA y.natAbs) out r7 (by omega) r2 (by rw[r3,q6,p3]) r4 (by rw[r5,q8,p5]) r6
 refine⟨st,?_,?_⟩
 ·rw[bn,bn,aM 2 p1,MP,aw ((aw q1).trans (bF (bT r1 (by omega))))]
  exact e1
 ·rw[e2,r9,bQ,bQ,WD]
theorem wb:Ab.Spec base.P 105 G9:=Ab.Spec.bN (C:=CC L1) (cU Ky) fun args rs h=>by
 unfold G9 at h
 split at h
 ·split at h
  ·rename_i x y ex ey
   obtain⟨rfl,hx⟩:=dR ex
   obtain⟨rfl,hy⟩:=dR ey
   simp only[Option.some.injEq] at h
   subst h
   obtain⟨st,e1,e2⟩:=Sp (runK (CC L1) 400001) 400001 x y hx hy (by unfold Sm at hx;omega) (by unfold Sm at hy;omega)
   exact⟨400002,_,_,_,_,_,aQ VC rfl e1 e2,iX _ _,Wk.refl rfl,trivial⟩
  ·cases h
 ·cases h
end Go.Proofs.YtjdmodeenbdfpaaGreat
