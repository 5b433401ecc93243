/- Contracts of num's integers, part 22 of the proof; each lemma states its own conditions. -/
import Derived.Test.YtjdmodeenbdfpaaGreatR21
import Derived.Test.YtjdmodeenbdfpaaGreatR18
set_option linter.unusedSimpArgs false
set_option linter.unusedVariables false
namespace Go.Proofs.YtjdmodeenbdfpaaGreat
open Go Go.Ab
theorem MC:Ab.Spec base.P 182 CZ:=Ab.Spec.bQ (C:=CC LK) (cV afv) fun args rs h=>by
 unfold CZ at h
 split at h
 ·split at h
  ·rename_i a b ea eb
   obtain⟨rfl,ha,hla⟩:=dA ea
   obtain⟨rfl,hb,hlb⟩:=dA eb
   cases hc:tt b && Nat.ble 2 b.length && Nat.ble b.length a.length && Nat.ble a.length 900000 with
   | false=>rw[hc] at h;cases h
   | true =>
    rw[hc] at h
    simp only[cond_true,Option.some.injEq] at h
    subst h
    simp only[Bool.and_eq_true,Nat.ble_eq] at hc
    obtain⟨⟨⟨hc1,hc2⟩,hc3⟩,hc4⟩:=hc
    have hT:=mG hc1
    obtain⟨mm,hmm⟩:∃ mm,b.length=mm+2:=⟨b.length - 2,by omega⟩
    obtain⟨k,hk⟩:∃ k,k=1000000000 / (at0 b (mm+1)+1):=⟨_,rfl⟩
    obtain⟨s1,s2,s3,s4,s5,s6⟩:=Kx hb hT hmm hk
    have hblt:val a*k<1000000000 ^ (a.length+1):=by
     rw[Nat.pow_succ]
     exact Nat.lt_of_lt_of_le (Nat.mul_lt_mul_of_pos_right (eL ha) s1) (Nat.mul_le_mul_left _ (by omega))
    have hVlt:val b*k<1000000000 ^ (b.length+1):=by
     rw[Nat.pow_succ]
     exact Nat.lt_of_lt_of_le (Nat.mul_lt_mul_of_pos_right (eL hb) s1) (Nat.mul_le_mul_left _ (by omega))
    have hb0:0<val b:=by
     rcases Nat.eq_zero_or_pos (val b) with h | h
     ·rw[h] at s3
      have:0<1000000000 ^ (mm+1+1):=Nat.pow_pos (by omega)
      omega
     ·exact h
    obtain⟨f0,wr0,p1,p2,p3,p4⟩:=Mp LK (runK (CC LK) (a.length+3)) (a.length+3) (aM a) (aM b)
    obtain⟨f1,wr1,q1,q2,q3,q4,q5⟩:=Mo LK (runK (CC LK) (a.length+3)) (a.length+3) f0 wr0 a b (mm+1) _ _ k hb hlb hmm rfl rfl hk p2 p3 p4
    have hc1':=qB (a.length+2) false [] a k ha s2 hla (by omega)
    have hc2':=qB (a.length+2) false [⟨.live,(db (a.length+1) (val a*k)).map dg⟩] b k hb s2 hlb (by omega)
    have hc3':=Hj (runK (CC LK) (a.length+3)) false [⟨.live,(db (a.length+1) (val a*k)).map dg⟩,⟨.live,(db (b.length+1) (val b*k)).map dg⟩] 1 (b.length+1) (db (b.length+1) (val b*k)) (gp _ _) (dn _ _) (by omega) rfl
    rw[fi _ _ hVlt] at hc3'
    obtain⟨f2,wr2,r1,r2,r3,r4,r5⟩:=Mn (runK (CC LK) (a.length+3)) (a.length+3) f1 wr1 a b (aG (val b*k)) _ _ k _ _ _ _ _ q2 q3 q4 q5 hc1' hc2' hc3'
    have hvl:(aG (val b*k)).length=b.length:=by rw[s5,hmm]
    obtain⟨f3,wr3,t1,t2,t3,t4,t5,t6,t7⟩:=Mm LK (runK (CC LK) (a.length+3)) (a.length+3) f2 wr2 (db (a.length+1) (val a*k)) (db (b.length+1) (val b*k)) (aG (val b*k)) (dg k) (a.length+1) (a.length+1 - b.length) (by omega) (by omega) r2 r3 r4 r5
    obtain⟨f4,w1,w2⟩:=YP LK (runK (CC LK) (a.length+3)) (a.length+3) f3 (hpL ⟨.ro,(db (b.length+1) (val b*k)).map dg⟩ (db (a.length+1) (val a*k)) (List.replicate (a.length+1 - b.length) 0)) wr3 (aG (val b*k)) (dg k) (a.length+1) (a.length+1 - b.length) b.length (by omega) (by omega) hvl t2 t3 t4 t5 t6 t7
    have hLI:=LI.init (a:=val a) (b:=val b) (k:=k) (n:=b.length) (la:=a.length) (u:=db (a.length+1) (val a*k)) (by rw[fi _ _ hblt,Nat.mul_comm]) (gp _ _) (dn _ _) (eL ha) (by rw[hmm];exact s3) s1 (by omega)
    have hvv:val (aG (val b*k))=k*val b:=by rw[bZ,Nat.mul_comm]
    rw[← hvv] at hLI
    obtain⟨f5,wr5,u,q,x1,x2,x3,x4⟩:=yN LK (runK (CC LK) (a.length+3)) (a.length+3) ⟨.ro,(db (b.length+1) (val b*k)).map dg⟩ _ (a.length+1) (a.length+1 - b.length) b.length mm (dg k) (aG (val b*k)) (bU _) hvl hmm (by omega) (by omega) (by omega) s6 (a.length+1 - b.length) f4 wr3 _ _ hLI (by omega) (by simp) w2
    rw[hvv] at x2
    obtain⟨y1,y2⟩:=x2.done s1 hb0
    have hul:=x2.ul
    have hmod:=Nat.mod_lt (val a) hb0
    have hsm:val u<1000000000 ^ b.length:=by
     rw[y2,hmm]
     refine Nat.lt_trans ?_ s4
     rw[Nat.mul_comm]
     exact Nat.mul_lt_mul_of_pos_right hmod s1
    have htk:=ui hsm
    have hc4':=DH (runK (CC LK) (a.length+3)) false (hpL ⟨.ro,(db (b.length+1) (val b*k)).map dg⟩ u q) 0 b.length k u x2.uok (by omega) (by omega) s1 s2 rfl
    rw[htk,y2,Nat.mul_div_cancel_left _ s1] at hc4'
    obtain⟨st,e1,e2,e3⟩:=Mq (runK (CC LK) (a.length+3)) (a.length+3) f5 wr5 u q _ k (a.length+1) (a.length+1 - b.length) b.length 0 _ _ _ _ (by omega) x4 hc4'
    have hx:af (CC LK) (runK (CC LK) (a.length+3)) (a.length+3) gS ⟨entry 239 [aM a,aM b],[],[]⟩=some (.ret,st):=by
     rw[aP 1 p1,aP 1 q1,show ah 1 (ah 1 gS)=ah 2 gS from rfl,aP 1 r1,show ah 1 (ah 2 gS)=ah 3 gS from rfl,aP 2 t1,show ah 2 (ah 3 gS)=ah 5 gS from rfl,Mw,
      av ((av w1).trans (bH (ca x1 (by omega))))]
     exact e1
    have hq:q=db (a.length+1 - b.length) (val a / val b):=x2.qok.oS (by have:=x2.ql;omega) y1
    have hs:=ux (hp:=[⟨.ro,u.map dg⟩,⟨.ro,(db (b.length+1) (val b*k)).map dg⟩,⟨.live,q.map dg⟩]) (id:=2) (l:=q) rfl (a.length+1 - b.length) true (by omega) 10
    rw[List.take_of_length_le (by omega)] at hs
    refine⟨a.length+4,_,_,_,[.imm (a.length+1 - b.length) true (q.map dg),aM (db b.length (val a % val b))],[2],aX ND rfl hx e2,?_,?_,Wk.refl rfl,trivial⟩
    ·rw[e3]
     show bt (Ab.snap _ 12) _=_
     simp only[bt,hs]
     rfl
    ·rw[← hq]
     have:=Wk.imm (a.length+1 - b.length) true (q.map dg)
     rw[aM,x3]
     exact this
  ·cases h
 ·cases h
def zg (p:PV):Option Nat:=match gW p with
 | some l=>bif tt l then some (val l) else none
 | none=>none
theorem wL {p:PV}{n:Nat}(h:zg p=some n):p=aM (aG n)∧(aG n).length<1000000:=by
 unfold zg at h
 split at h
 ·rename_i l e
  obtain⟨h1,h2,h3⟩:=dA e
  cases ht:tt l with
  | false=>rw[ht] at h;cases h
  | true =>
   rw[ht] at h
   simp at h;subst h
   rw[jR h2 (mG ht)]
   exact⟨h1,h3⟩
 ·cases h
theorem lq {n:Nat}(h:(aG n).length<1000000):zg (aM (aG n))=some n:=by
 simp[zg,cX (bU n) h,pq (jk n),bZ]
noncomputable def L3:Lst:=[(167,jc),(146,sf),(181,mI),(182,CZ)]
theorem afz:dL base.P L3:=⟨iK,xR,uE,MC,trivial⟩
theorem X1:bw L3 146=fun a=>sf (aK a):=rfl
theorem RB:bw L3 181=fun a=>mI (aK a):=rfl
theorem X2:bw L3 182=fun a=>CZ (aK a):=rfl
theorem qg {y:Nat}(h:1000000000≤y):2≤(aG y).length:=by
 rcases Nat.lt_or_ge (aG y).length 2 with h2 | h2
 ·have h3:=fy y
  have h4:(1000000000:Nat) ^ (aG y).length≤1000000000 ^ 1:=Nat.pow_le_pow_right (by omega) (by omega)
  omega
 ·exact h2
theorem Hn (run:ar)(dr:Bool)(hp:List Blk)(x y:Nat)(hx:(aG x).length≤900000)(hy:1000000000≤y)(hxy:y≤x) :
  cg (CC L3) run dr hp 182 [aM (aG x),aM (aG y)]=some (.tup [aM (db ((aG x).length+1 - (aG y).length) (x / y)),aM (db (aG y).length (x % y))],hp,⟨[],[],false,false⟩):=by
 have h1:=qg hy
 have h2:=cH hxy
 have h3:Nat.ble 2 (aG y).length=true:=Nat.ble_eq ▸ h1
 have h4:Nat.ble (aG y).length (aG x).length=true:=Nat.ble_eq ▸ h2
 have h5:Nat.ble (aG x).length 900000=true:=Nat.ble_eq ▸ hx
 exact bu VS X2 run dr hp _ [aM (db ((aG x).length+1 - (aG y).length) (x / y)),aM (db (aG y).length (x % y))] (mn hp _ _) (jU _ _)
  (by simp only[CZ,cX (bU x) (show (aG x).length<1000000 by omega),cX (bU y) (show (aG y).length<1000000 by omega),pq (jk y),h3,h4,h5,Bool.and_self,cond_true,bZ])
theorem o8 (run:ar)(dr:Bool)(hp:List Blk)(x y:Nat)(hx:(aG x).length<1000000)(hy:(aG y).length<1000000) :
  cg (CC L3) run dr hp 146 [aM (aG x),aM (aG y)]=some (Ab.bJ (dQ x y),hp,⟨[],[],false,false⟩) :=
 bu Ij X1 run dr hp _ [Ab.bJ (dQ x y)] (mn hp _ _) (jU _ _) (by simp only[sf,cX (bU _) hx,cX (bU _) hy,lD])
theorem DL (run:ar)(dr:Bool)(hp:List Blk)(x b:Nat)(hx:(aG x).length<1000000)(hb:0<b)(hb2:b<1000000000) :
  cg (CC L3) run dr hp 181 [aM (aG x),dg b]=some (.tup [aM (db (aG x).length (x / b)),dg (x % b)],hp,⟨[],[],false,false⟩):=by
 obtain⟨b,rfl⟩:∃ c,b=c+1:=⟨b - 1,by omega⟩
 exact bu Bv RB run dr hp [aM (aG x),dg (b+1)] [aM (db (aG x).length (x / (b+1))),dg (x % (b+1))] rfl (by simp only[aK,fA];rfl) (by simp only[mI,cX (bU _) hx,TH hb2,bZ])
theorem Hm (run:ar)(dr:Bool)(hp:List Blk)(r:Nat)(hr:r<1000000000) :
  cg (CC L3) run dr hp 167 [.imm 1 true [dg r]]=some (aM (aG r),hp,⟨[],[],false,false⟩):=by
 have h3:(CC L3).orc 167 [.imm 1 true [dg r]]=some [aM (aG r)]:=by
  show jc (aK [.imm 1 true [dg r]])=_
  have h1:aK [.imm 1 true [dg r]]=[aM [r]]:=rfl
  have h2:Dok [r]:=Dok.nil.cons hr
  rw[h1]
  simp only[jc,cX h2 (by simp),eD h2]
  simp[val]
 have h4:bt (snap hp bp) [.imm 1 true [dg r]]=some ([.imm 1 true [dg r]],[]):=rfl
 exact eI tG h4 h3 rfl
noncomputable def rp:Code:=Tryz.f166.body.getD .skip
theorem Cs (run:ar)(k:Nat)(x y:Nat)(hx:(aG x).length<1000000)(hy:(aG y).length<1000000)(hxy:x<y) :
  ∃ st,af (CC L3) run k rp ⟨entry 35 [aM (aG x),aM (aG y)],[],[]⟩=some (.ret,st)∧aZ TT st.fr st.hp Tryz.f166.results.toList=some [.sc (.slice none 0 0),aM (aG x)]:=by
 have hc:=fun hp dr=>o8 run dr hp x y hx hy
 rw[dQ,if_pos hxy] at hc
 simp only[Ab.bJ] at hc
 obtain⟨e1,e2,e3⟩:=cC 33 (aM (aG x)) (aM (aG y))
 generalize entry 35 [aM (aG x),aM (aG y)]=fr0 at *
 generalize aG x=a at *
 generalize aG y=b at *
 simp[rp,Tryz.f166,af,aJ,ao,aq,aH,ag,ai,aQ,aj,an,aF,aC,FP.none,bd,au,bj,aw,aa,ae,ab,e1,e2,e3,hc,aZ]
theorem np {y:Nat}(h:0<y)(h2:y<1000000000):aG y=[y]:=by
 rw[dX (by omega),Nat.mod_eq_of_lt h2,Nat.div_eq_of_lt h2,fj]
set_option maxHeartbeats 1000000 in
theorem Cr (run:ar)(k:Nat)(x y:Nat)(hx:(aG x).length<1000000)(hy0:0<y)(hy:y<1000000000)(hxy:y≤x) :
  ∃ st,af (CC L3) run k rp ⟨entry 35 [aM (aG x),aM (aG y)],[],[]⟩=some (.ret,st)∧aZ TT st.fr st.hp Tryz.f166.results.toList=some [aM (db (aG x).length (x / y)),aM (aG (x % y))]:=by
 have hly:(aG y).length<1000000:=by rw[np hy0 hy];simp
 have hc:=fun hp dr=>o8 run dr hp x y hx hly
 have hcz : ¬ (dQ x y<0):=by
  unfold dQ
  rw[if_neg (by omega)]
  by_cases h:x=y
  ·rw[if_pos h];omega
  ·rw[if_neg h];omega
 have hc2:=fun hp dr=>DL run dr hp x y hx hy0 hy
 have hc3:=fun hp dr=>Hm run dr hp (x % y) (Nat.lt_trans (Nat.mod_lt _ hy0) hy)
 rw[np hy0 hy] at hc ⊢
 simp only[Ab.bJ] at hc
 obtain⟨e1,e2,e3⟩:=cC 33 (aM (aG x)) (aM [y])
 generalize entry 35 [aM (aG x),aM [y]]=fr0 at *
 generalize aG (x % y)=rr at *
 generalize db (aG x).length (x / y)=qq at *
 generalize aG x=a at *
 generalize dQ x y=cc at *
 generalize x % y=r at *
 have e4:aM [y] = .imm 1 false [dg y]:=rfl
 rw[e4] at hc e3
 simp[rp,Tryz.f166,af,aJ,ao,aq,aH,ag,ai,aQ,aj,an,aF,aC,FP.none,bd,au,bj,aw,bM,bc,jA,partOf,aa,ae,ab,bh,cS,e1,e2,e3,hc,hc2,hc3,hcz,uD,s32,a32,aU,br,nf,jt,aZ]
set_option maxHeartbeats 1000000 in
theorem Cq (run:ar)(k:Nat)(x y:Nat)(hx:(aG x).length≤900000)(hy:1000000000≤y)(hxy:y≤x) :
  ∃ st,af (CC L3) run k rp ⟨entry 35 [aM (aG x),aM (aG y)],[],[]⟩=some (.ret,st)∧aZ TT st.fr st.hp Tryz.f166.results.toList=some [aM (db ((aG x).length+1 - (aG y).length) (x / y)),aM (db (aG y).length (x % y))]:=by
 have hly:(aG y).length<1000000:=Nat.lt_of_le_of_lt (cH hxy) (by omega)
 have hc:=fun hp dr=>o8 run dr hp x y (by omega) hly
 have hcz : ¬ (dQ x y<0):=by
  unfold dQ
  rw[if_neg (by omega)]
  by_cases h:x=y
  ·rw[if_pos h];omega
  ·rw[if_neg h];omega
 have hc2:=fun hp dr=>Hn run dr hp x y hx hy hxy
 have hl1:(((aG y).length:Int) == 1)=false:=by rw[beq_eq_false_iff_ne];have:=qg hy;omega
 simp only[Ab.bJ] at hc
 obtain⟨e1,e2,e3⟩:=cC 33 (aM (aG x)) (aM (aG y))
 generalize entry 35 [aM (aG x),aM (aG y)]=fr0 at *
 generalize db ((aG x).length+1 - (aG y).length) (x / y)=qq at *
 generalize db (aG y).length (x % y)=rr at *
 generalize aG x=a at *
 generalize aG y=b at *
 generalize dQ x y=cc at *
 simp[rp,Tryz.f166,af,aJ,ao,aq,aH,ag,ai,aQ,aj,an,aF,aC,FP.none,bd,au,bj,aw,bM,aa,ae,ab,bh,ct,e1,e2,e3,hc,hc2,hcz,hl1,uD,aZ]
def kC:List PV→Option (List PV)
 | [p,q]=>match zg p,zg q with
  | some x,some y=>bif x.blt y then some [aM [],aM (aG x)] else bif y.blt 1000000000 then (bif y.beq 0 then none else some [aM (db (aG x).length (x / y)),aM (aG (x % y))]) else
    bif (aG x).length.ble 900000 then some [aM (db ((aG x).length+1 - (aG y).length) (x / y)),aM (db (aG y).length (x % y))] else none
  | _,_=>none
 | _=>none
theorem lx {x y:Nat}(h : ¬ x<y):x.blt y=false:=by
 cases e:x.blt y with
 | false=>rfl
 | true=>rw[Nat.blt_eq] at e;exact absurd e h
theorem jY {y:Nat}(h:y≠0):y.beq 0=false:=by
 cases y with
 | zero=>exact absurd rfl h
 | succ y=>rfl
theorem vD:Ab.Spec base.P 166 kC:=Ab.Spec.bQ (C:=CC L3) (cV afz) fun args rs h=>by
 unfold kC at h
 split at h
 ·split at h
  ·rename_i x y ex ey
   obtain⟨rfl,hx⟩:=wL ex
   obtain⟨rfl,hy⟩:=wL ey
   by_cases hb:x<y
   ·have hb':x.blt y=true:=by rw[Nat.blt_eq];exact hb
    rw[hb'] at h
    simp only[cond_true,Option.some.injEq] at h
    subst h
    obtain⟨st,e1,e2⟩:=Cs (runK (CC L3) 1) 1 x y hx hy hb
    exact⟨2,_,_,_,[.sc (.slice none 0 0),aM (aG x)],[],aX pa rfl e1 e2,rfl,Wk.nil false,Wk.refl rfl,trivial⟩
   ·rw[lx hb] at h
    by_cases hc:y<1000000000
    ·have hc':y.blt 1000000000=true:=by rw[Nat.blt_eq];exact hc
     rw[hc'] at h
     by_cases hy0:y=0
     ·subst hy0
      simp at h
     ·rw[jY hy0] at h
      simp only[cond_true,cond_false,Option.some.injEq] at h
      subst h
      obtain⟨st,e1,e2⟩:=Cr (runK (CC L3) 1) 1 x y hx (by omega) hc (by omega)
      exact⟨2,_,_,_,_,_,aX pa rfl e1 e2,rfl,Wk.refl rfl,Wk.refl rfl,trivial⟩
    ·rw[lx hc] at h
     cases hd:(aG x).length.ble 900000 with
     | false=>rw[hd] at h;simp at h
     | true =>
      rw[hd] at h
      simp only[cond_true,cond_false,Option.some.injEq] at h
      subst h
      obtain⟨st,e1,e2⟩:=Cq (runK (CC L3) 1) 1 x y (by rw[Nat.ble_eq] at hd;exact hd) (by omega) (by omega)
      exact⟨2,_,_,_,_,_,aX pa rfl e1 e2,rfl,Wk.refl rfl,Wk.refl rfl,trivial⟩
  ·cases h
 ·cases h
theorem vF (x y:Nat)(hx:(aG x).length≤900000)(hy:(aG y).length≤900000)(hy0:y≠0) :
  ∃ q r,kC [aM (aG x),aM (aG y)]=some [aM q,aM r]∧Dok q∧val q=x / y∧q.length<1000000∧Dok r∧val r=x % y∧r.length<1000000:=by
 have hx':(aG x).length<1000000:=by omega
 have hy':(aG y).length<1000000:=by omega
 have hm:=Nat.mod_lt x (show 0<y by omega)
 have hml:(aG (x % y)).length<1000000:=Nat.lt_of_le_of_lt (cH (Nat.le_of_lt hm)) hy'
 by_cases hb:x<y
 ·have hb':x.blt y=true:=by rw[Nat.blt_eq];exact hb
  exact⟨[],aG x,by simp only[kC,lq hx',lq hy',hb',cond_true],Dok.nil,by rw[Nat.div_eq_of_lt hb];rfl,by simp,bU _,by rw[bZ,Nat.mod_eq_of_lt hb],hx'⟩
 ·by_cases hc:y<1000000000
  ·have hc':y.blt 1000000000=true:=by rw[Nat.blt_eq];exact hc
   exact⟨_,_,by simp only[kC,lq hx',lq hy',lx hb,hc',jY hy0,cond_true,cond_false],gp _ _,fi _ _ (Nat.lt_of_le_of_lt (Nat.div_le_self x y) (fy x)),by rw[dn];exact hx',bU _,bZ _,hml⟩
  ·have hd:(aG x).length.ble 900000=true:=by rw[Nat.ble_eq];exact hx
   have h2:=qg (show 1000000000≤y by omega)
   have hle:=cH (show y≤x by omega)
   refine⟨db ((aG x).length+1 - (aG y).length) (x / y),db (aG y).length (x % y),by simp only[kC,lq hx',lq hy',lx hb,lx hc,hd,cond_true,cond_false],gp _ _,fi _ _ ?_,by rw[dn];omega,gp _ _,fi _ _ (Nat.lt_trans hm (fy y)),by rw[dn];exact hy'⟩
   have h3:=fy x
   have h4:1000000000 ^ ((aG y).length - 1)≤y:=by
    rcases Nat.lt_or_ge y (1000000000 ^ ((aG y).length - 1)) with h | h
    ·have:=di h;omega
    ·exact h
   refine Nat.div_lt_of_lt_mul ?_
   refine Nat.lt_of_lt_of_le h3 (Nat.le_trans ?_ (Nat.mul_le_mul_right _ h4))
   rw[← Nat.pow_add]
   exact Nat.pow_le_pow_right (by omega) (by omega)
noncomputable def L4:Lst:=[(167,jc),(166,kC),(165,A5),(164,zK),(97,ofF)]
theorem afy:dL base.P L4:=⟨iK,vD,JA,EE,lV,trivial⟩
theorem XZ:bw L4 167=fun a=>jc (aK a):=rfl
theorem RA:bw L4 166=fun a=>kC (aK a):=rfl
theorem XY:bw L4 165=fun a=>A5 (aK a):=rfl
theorem Rz:bw L4 164=fun a=>zK (aK a):=rfl
theorem aeP:bw L4 97=fun a=>ofF (aK a):=rfl
theorem Hl (run:ar)(dr:Bool)(hp:List Blk)(r:List Nat)(hd:Dok r)(hr:r.length<1000000) :
  cg (CC L4) run dr hp 167 [aM r]=some (aM (aG (val r)),hp,⟨[],[],false,false⟩) :=
 bu tG XZ run dr hp _ [aM (aG (val r))] rfl (by simp only[aK,fA]) (by simp only[jc,cX hd hr,eD hd])
theorem DK (run:ar)(dr:Bool)(hp:List Blk)(x y:Nat)(hx:(aG x).length≤900000)(hy:(aG y).length≤900000)(hy0:y≠0) :
  ∃ q r,cg (CC L4) run dr hp 166 [aM (aG x),aM (aG y)]=some (.tup [aM q,aM r],hp,⟨[],[],false,false⟩)∧Dok r∧val r=x % y∧r.length<1000000:=by
 obtain⟨q,r,h1,h2,h3,h4,h5,h6,h7⟩:=vF x y hx hy hy0
 exact⟨q,r,bu BF RA run dr hp [aM (aG x),aM (aG y)] [aM q,aM r] (mn hp _ _) (jU _ _) h1,h5,h6,h7⟩
theorem wT (run:ar)(dr:Bool)(hp:List Blk)(x:Nat)(hx:(aG x).length≤2) :
  cg (CC L4) run dr hp 165 [aM (aG x)]=some (Ab.bJ (Int.ofNat x),hp,⟨[],[],false,false⟩) :=
 bu VM XY run dr hp _ [Ab.bJ (Int.ofNat x)] rfl (by simp only[aK,fA]) (by
  have:(aG x).length.ble 2=true:=by rw[Nat.ble_eq];exact hx
  simp only[A5,cX (bU x) (show (aG x).length<1000000 by omega),this,cond_true,bZ])
theorem DJ (run:ar)(dr:Bool)(hp:List Blk)(x y:Nat) :
  cg (CC L4) run dr hp 164 [.sc (.int .i64 (x:Int)),.sc (.int .i64 (y:Int))]=some (.sc (.int .i64 ((Nat.gcd x y:Nat):Int)),hp,⟨[],[],false,false⟩) :=
 bu Ov Rz run dr hp _ [Ab.bJ (Int.ofNat (Nat.gcd x y))] rfl rfl rfl
theorem Ux (run:ar)(dr:Bool)(hp:List Blk)(x:Nat)(hx:x<9223372036854775808) :
  cg (CC L4) run dr hp 97 [.sc (.int .i64 (x:Int))]=some (bq (Int.ofNat x),hp,⟨[],[],false,false⟩) :=
 bu xX aeP run dr hp _ [bq (Int.ofNat x)] rfl rfl (by
  have h1:decide (-9223372036854775808≤(x:Int))=true:=decide_eq_true (by omega)
  have h2:decide ((x:Int)<9223372036854775808)=true:=decide_eq_true (by omega)
  simp only[ofF,h1,h2,Bool.and_self,cond_true];rfl)
theorem Sm.le9 {z:Int}(h:Sm z):(aG z.natAbs).length≤900000:=Nat.le_of_lt (Nat.lt_trans h (by decide))
noncomputable def Dc:Code:=Tryz.f150.body.getD .skip
noncomputable def xu:Code:=((Tryz.f150.body).bind az).getD .skip
abbrev zW2:Blk:=⟨.live,[.sc (.bool false),.sc (.slice none 0 0)]⟩
theorem Zc (L:Lst)(run:ar)(k:Nat)(fr:List PV)(hp:List Blk)(wr:List Nat)(h41:fr.length=41)(h6:nth fr 6=aM []) :
  ∃ fr',af (CC L) run k xu ⟨fr,hp,wr⟩=some (.exit 0,⟨fr',hp,wr⟩)∧fr'.length=41∧nth fr' 4=nth fr 4∧nth fr' 5=nth fr 5:=by
 simp[xu,Tryz.f150,az,af,aJ,ao,aq,aH,ag,ai,aj,an,aF,aC,FP.none,bd,au,bj,aw,bM,aa,ae,ab,bh,ct,h41,h6,uD]
set_option maxHeartbeats 1000000 in
theorem MJ (run:ar)(k:Nat)(fr:List PV)(hp:List Blk)(wr:List Nat)(x y:Nat)(hx:(aG x).length≤900000)(hy:(aG y).length≤900000)(hy0:y≠0)(hns : ¬ ((aG x).length≤2∧(aG y).length≤2))
  (h41:fr.length=41) (h5:nth fr 5=aM (aG x)) (h6:nth fr 6=aM (aG y)) :
  ∃ fr',af (CC L4) run k xu ⟨fr,hp,wr⟩=some (.normal,⟨fr',hp,wr⟩)∧fr'.length=41∧nth fr' 4=nth fr 4∧nth fr' 5=aM (aG y)∧nth fr' 6=aM (aG (x % y)):=by
 obtain⟨q,rr,hc,hr1,hr2,hr3⟩:=DK run false hp x y hx hy hy0
 have hc2:=fun dr=>Hl run dr hp rr hr1 hr3
 rw[hr2] at hc2
 have hp0:=(cU (n:=y)).2 hy0
 have hne:aG y≠[]:=by intro e;rw[e] at hp0;simp at hp0
 generalize aG (x % y)=r at *
 generalize aG x=a at *
 generalize aG y=b at *
 by_cases h2:a.length≤2
 ·have h3 : ¬ (b.length≤2):=fun h=>hns ⟨h2,h⟩
  simp[xu,Tryz.f150,az,af,aJ,ao,aq,aH,ag,ai,aQ,aj,an,aF,aC,FP.none,bd,au,bj,aw,bM,aa,ae,ab,bh,ct,ac0,h41,h5,h6,uD,hp0,h2,h3,hc,hc2]
 ·simp[xu,Tryz.f150,az,af,aJ,ao,aq,aH,ag,ai,aQ,aj,an,aF,aC,FP.none,bd,au,bj,aw,bM,aa,ae,ab,bh,ct,ac0,h41,h5,h6,uD,hp0,h2,hc,hc2]
set_option maxHeartbeats 1000000 in
theorem Y9 (run:ar)(k:Nat)(fr:List PV)(b0 b1:Blk)(wr:List Nat)(x y:Nat)(hx:(aG x).length≤2)(hy:(aG y).length≤2)(hy0:y≠0)(h41:fr.length=41)(h4:nth fr 4 = .ptr 2 0)(h5:nth fr 5=aM (aG x))(h6:nth fr 6=aM (aG y)) :
  ∃ fr' wr',af (CC L4) run k xu ⟨fr,[b0,b1,zW2],wr⟩=some (.ret,⟨fr',[b0,b1,⟨.live,[.sc (.bool false),aM (aG (Nat.gcd x y))]⟩],wr'⟩)∧nth fr' 4 = .ptr 2 0:=by
 have hc1:=fun dr=>wT run dr [b0,b1,zW2] x hx
 have hc2:=fun dr=>wT run dr [b0,b1,zW2] y hy
 have hc3:=fun dr=>DJ run dr [b0,b1,zW2] x y
 have hg:Nat.gcd x y<9223372036854775808:=by
  have h1:=fy y
  have h2:=Nat.pow_le_pow_right (n:=1000000000) (by omega) hy
  have h3:=Nat.gcd_le_right x (show 0<y by omega)
  have h4:1000000000 ^ 2<9223372036854775808:=by decide
  omega
 have hc4:=fun dr=>Ux run dr [b0,b1,zW2] (Nat.gcd x y) hg
 simp only[Ab.bJ,Int.ofNat_eq_natCast] at hc1 hc2
 rw[show bq (Int.ofNat (Nat.gcd x y)) = .agg [.sc (.bool false),aM (aG (Nat.gcd x y))] from rfl] at hc4
 have hp0:=(cU (n:=y)).2 hy0
 have hne:aG y≠[]:=by intro e;rw[e] at hp0;simp at hp0
 generalize aG (Nat.gcd x y)=g at *
 generalize Nat.gcd x y=gg at *
 generalize aG x=a at *
 generalize aG y=b at *
 simp[xu,Tryz.f150,az,af,aJ,ao,aq,aH,ag,ai,aQ,aj,an,aF,aC,FP.none,bd,au,bj,aw,bM,aa,ae,ab,bh,and_assoc,ct,bn,bX,bC,bg,ac0,h41,h4,h5,h6,uD,hp0,hx,hy,hc1,hc2,hc3,hc4,aV,bO,cj,sW]
theorem Db (run:ar)(k:Nat)(b0 b1:Blk) :
  ∀ (n y x:Nat) (fr:List PV) (wr:List Nat),y<n→(aG x).length≤900000→(aG y).length≤900000→fr.length=41→nth fr 4 = .ptr 2 0→nth fr 5=aM (aG x)→nth fr 6=aM (aG y) →
  (∃ fr' wr',cl (af (CC L4) run k xu) n ⟨fr,[b0,b1,zW2],wr⟩=some (.exit 0,⟨fr',[b0,b1,zW2],wr'⟩)∧fr'.length=41∧nth fr' 4 = .ptr 2 0∧nth fr' 5=aM (aG (Nat.gcd x y))) ∨
  (∃ fr' wr',cl (af (CC L4) run k xu) n ⟨fr,[b0,b1,zW2],wr⟩=some (.ret,⟨fr',[b0,b1,⟨.live,[.sc (.bool false),aM (aG (Nat.gcd x y))]⟩],wr'⟩)∧nth fr' 4 = .ptr 2 0)
 | 0,y,x,fr,wr,hn,_,_,_,_,_,_=>by omega
 | n+1,y,x,fr,wr,hn,hx,hy,h41,h4,h5,h6=>by
  by_cases hy0:y=0
  ·subst hy0
   obtain⟨fr',g1,g2,g3,g4⟩:=Zc L4 run k fr [b0,b1,zW2] wr h41 h6
   exact .inl ⟨fr',wr,bD g1,g2,by rw[g3,h4],by rw[g4,h5,Nat.gcd_zero_right]⟩
  ·by_cases hs:(aG x).length≤2∧(aG y).length≤2
   ·obtain⟨fr',wr',g1,g2⟩:=Y9 run k fr b0 b1 wr x y hs.1 hs.2 hy0 h41 h4 h5 h6
    exact .inr ⟨fr',wr',eF g1,g2⟩
   ·obtain⟨fr1,g1,g2,g3,g4,g5⟩:=MJ run k fr [b0,b1,zW2] wr x y hx hy hy0 hs h41 h5 h6
    have hm:=Nat.mod_lt x (show 0<y by omega)
    have:=Db run k b0 b1 n (x % y) y fr1 wr (by omega) hy (Nat.le_trans (cH (Nat.le_of_lt hm)) hy) g2 (by rw[g3,h4]) g4 g5
    rw[ch g1]
    rw[Nat.gcd_comm y (x % y),← Nat.gcd_rec,Nat.gcd_comm y x] at this
    exact this
theorem yW:ah 2 Dc = .seq (.block 0 (.loop xu)) (ah 3 Dc):=rfl
theorem Zb (L:Lst)(run:ar)(k:Nat)(na nb:Bool)(a b:List Nat) :
  ∃ fr wr,aY (CC L) run k 2 Dc ⟨entry 41 [wh na a,wh nb b],[],[]⟩=some ⟨fr,[⟨.live,[.sc (.bool na),aM a]⟩,⟨.live,[.sc (.bool nb),aM b]⟩,zW2],wr⟩∧fr.length=41∧nth fr 4 = .ptr 2 0∧nth fr 5=aM a∧nth fr 6=aM b:=by
 obtain⟨e1,e2,e3⟩:=cC 39 (wh na a) (wh nb b)
 generalize entry 41 [wh na a,wh nb b]=fr0 at *
 have e4:∀ n l,wh n l = .agg [.sc (.bool n),aM l]:=fun _ _=>rfl
 rw[e4] at e2 e3
 simp[Dc,Tryz.f150,aY,e1,e2,e3,af,aJ,ao,aq,aH,ag,ai,aj,an,aF,aC,FP.none,bL,partOf,aa,ae,ab,bh,and_assoc,bn,uW,sD,zW,aD,wf0,wf1,aO,aU,aV,br,number,FP.free,cF,FP.apart]
theorem SU (L:Lst)(run:ar)(k:Nat)(fr:List PV)(b0 b1:Blk)(wr:List Nat)(a:List Nat)(h41:fr.length=41)(h4:nth fr 4 = .ptr 2 0)(h5:nth fr 5=aM a) :
  ∃ st,af (CC L) run k (ah 3 Dc) ⟨fr,[b0,b1,zW2],wr⟩=some (.ret,st)∧aZ TT st.fr st.hp Tryz.f150.results.toList=some [.agg [.sc (.bool false),aM a]]:=by
 simp[Dc,Tryz.f150,ah,af,aJ,ao,aq,aH,ag,ai,aj,an,aF,aC,FP.none,aw,partOf,aa,ae,ab,bh,wO,bn,jT,bX,bC,bg,h41,h4,h5,eN,zW,uW,wf0,wf1,sB,sD,sW,aW,dR,jM,cj,aZ,aU,aV,bO,br,bG]
theorem Za (fr:List PV)(b0 b1:Blk)(a:List Nat)(h4:nth fr 4 = .ptr 2 0):aZ TT fr [b0,b1,⟨.live,[.sc (.bool false),aM a]⟩] Tryz.f150.results.toList=some [.agg [.sc (.bool false),aM a]]:=by
 simp[Tryz.f150,aZ,h4,aU,aV,br,partOf,aW,sW,bG]
def wo:List PV→Option (List PV)
 | [p,q]=>match fD p,fD q with
  | some x,some y=>some [bq (Int.ofNat (Nat.gcd x.natAbs y.natAbs))]
  | _,_=>none
 | _=>none
theorem pW:Ab.Spec base.P 150 wo:=Ab.Spec.bQ (C:=CC L4) (cV afy) fun args rs h=>by
 unfold wo at h
 split at h
 ·split at h
  ·rename_i x y ex ey
   obtain⟨rfl,hx⟩:=dV ex
   obtain⟨rfl,hy⟩:=dV ey
   simp only[Option.some.injEq] at h
   subst h
   obtain⟨f1,wr1,p1,p2,p3,p4,p5⟩:=Zb L4 (runK (CC L4) (y.natAbs+1)) (y.natAbs+1) (bx x) (bx y) (aG x.natAbs) (aG y.natAbs)
   rcases Db (runK (CC L4) (y.natAbs+1)) (y.natAbs+1) ⟨.live,[.sc (.bool (bx x)),aM (aG x.natAbs)]⟩ ⟨.live,[.sc (.bool (bx y)),aM (aG y.natAbs)]⟩ (y.natAbs+1) y.natAbs x.natAbs f1 wr1 (by omega) hx.le9 hy.le9 p2 p3 p4 p5 with ⟨f2,wr2,q1,q2,q3,q4⟩| ⟨f2,wr2,q1,q2⟩
   ·obtain⟨st,e1,e2⟩:=SU L4 (runK (CC L4) (y.natAbs+1)) (y.natAbs+1) f2 _ _ wr2 _ q2 q3 q4
    have hx:af (CC L4) (runK (CC L4) (y.natAbs+1)) (y.natAbs+1) Dc ⟨entry 41 [bq x,bq y],[],[]⟩=some (.ret,st):=by
     rw[bq,bq,aP 2 p1,yW,av (bH q1)]
     exact e1
    exact⟨y.natAbs+2,_,_,_,_,_,aX Eh rfl hx e2,ji _ (Int.ofNat (Nat.gcd x.natAbs y.natAbs)),Wk.refl rfl,trivial⟩
   ·have hx:af (CC L4) (runK (CC L4) (y.natAbs+1)) (y.natAbs+1) Dc ⟨entry 41 [bq x,bq y],[],[]⟩=some (.ret,⟨f2,[⟨.live,[.sc (.bool (bx x)),aM (aG x.natAbs)]⟩,⟨.live,[.sc (.bool (bx y)),aM (aG y.natAbs)]⟩,⟨.live,[.sc (.bool false),aM (aG (Nat.gcd x.natAbs y.natAbs))]⟩],wr2⟩):=by
     rw[bq,bq,aP 2 p1,yW,cB (da q1)]
    exact⟨y.natAbs+2,_,_,_,_,_,aX Eh rfl hx (Za f2 _ _ _ q2),ji _ (Int.ofNat (Nat.gcd x.natAbs y.natAbs)),Wk.refl rfl,trivial⟩
  ·cases h
 ·cases h
noncomputable def L5:Lst:=[(166,kC),(152,fv),(101,jf),(97,ofF),(168,Ez),(139,rT)]
theorem afx:dL base.P L5:=⟨vD,je,jD,lV,uq,nG,trivial⟩
theorem Ry:bw L5 166=fun a=>kC (aK a):=rfl
theorem Md:bw L5 152=fun a=>fv (aK a):=rfl
theorem XX:bw L5 101=fun a=>jf (aK a):=rfl
theorem aeO:bw L5 97=fun a=>ofF (aK a):=rfl
theorem abT:bw L5 168=fun a=>Ez (aK a):=rfl
theorem abU:bw L5 139=fun a=>rT (aK a):=rfl
theorem DI (run:ar)(dr:Bool)(x y:Nat)(hx:(aG x).length≤900000)(hy:(aG y).length≤900000)(hy0:y≠0) :
  ∃ q r,(∀ hp,cg (CC L5) run dr hp 166 [aM (aG x),aM (aG y)]=some (.tup [aM q,aM r],hp,⟨[],[],false,false⟩))∧Dok q∧val q=x / y∧q.length<1000000∧Dok r∧val r=x % y∧r.length<1000000:=by
 obtain⟨q,r,h1,h2⟩:=vF x y hx hy hy0
 exact⟨q,r,fun hp=>bu BF Ry run dr hp [aM (aG x),aM (aG y)] [aM q,aM r] (mn hp _ _) (jU _ _) h1,h2⟩
theorem qD (run:ar)(dr:Bool)(hp:List Blk)(n:Bool)(l:List Nat)(hd:Dok l)(hl:l.length<1000000) :
  cg (CC L5) run dr hp 152 [.sc (.bool n),aM l]=some (bq (sgn n (val l)),hp,⟨[],[],false,false⟩) :=
 bu nQ Md run dr hp _ [bq (sgn n (val l))] (Jq hp n l) (DE n l) (by simp only[fv,cX hd hl])
theorem Hk (run:ar)(dr:Bool)(hp:List Blk)(x:Int)(hx:Sm x):cg (CC L5) run dr hp 101 [bq x]=some (Ab.bJ x.sign,hp,⟨[],[],false,false⟩) :=
 bu tH XX run dr hp _ [Ab.bJ x.sign] (ml hp x) (jy x) (by simp only[jf,cJ hx])
theorem Uw (run:ar)(dr:Bool)(hp:List Blk):cg (CC L5) run dr hp 97 [.sc (.int .i64 1)]=some (bq 1,hp,⟨[],[],false,false⟩) :=
 bu xX aeO run dr hp _ [bq 1] rfl rfl rfl
theorem Nj (run:ar)(dr:Bool)(hp:List Blk)(x y:Int)(hx:Sm x)(hy:Sm y):cg (CC L5) run dr hp 168 [bq x,bq y]=some (bq (x - y),hp,⟨[],[],false,false⟩) :=
 bu aa5 abT run dr hp _ [bq (x - y)] (fK hp x y) (eY x y) (by simp only[Ez,cJ hx,cJ hy])
theorem Nk (run:ar)(dr:Bool)(hp:List Blk)(x y:Int)(hx:Sm x)(hy:Sm y):cg (CC L5) run dr hp 139 [bq x,bq y]=some (bq (x+y),hp,⟨[],[],false,false⟩) :=
 bu EY abU run dr hp _ [bq (x+y)] (fK hp x y) (eY x y) (by simp only[rT,cJ hx,cJ hy])
noncomputable def divC:Code:=Tryz.f151.body.getD .skip
def wH (x y:Int):Bool := !(x.natAbs % y.natAbs).beq 0 && (bx x != bx y)
def me (x y:Int):Int:=bif wH x y then sgn (bx x != bx y) (x.natAbs / y.natAbs) - 1 else sgn (bx x != bx y) (x.natAbs / y.natAbs)
def AF (x y:Int):Int:=bif wH x y then sgn (bx x) (x.natAbs % y.natAbs)+y else sgn (bx x) (x.natAbs % y.natAbs)
theorem Sm.of_le {x y:Int}(h:Sm y)(hl:x.natAbs≤y.natAbs):Sm x:=Nat.lt_of_le_of_lt (cH hl) h
theorem uJ (n:Bool)(v:Nat):(sgn n v).natAbs=v:=by
 rw[qQ];cases n <;> simp
set_option maxHeartbeats 4000000 in
theorem ZK (run:ar)(k:Nat)(nx ny nq nr:Bool)(a b qd rd qq rr:List Nat)
  (hc1:∀ hp,cg (CC L5) run false hp 166 [aM a,aM b]=some (.tup [aM qd,aM rd],hp,⟨[],[],false,false⟩))
  (hc2:∀ dr hp,cg (CC L5) run dr hp 152 [.sc (.bool (nx != ny)),aM qd]=some (.agg [.sc (.bool nq),aM qq],hp,⟨[],[],false,false⟩))
  (hc3:∀ dr hp,cg (CC L5) run dr hp 152 [.sc (.bool nx),aM rd]=some (.agg [.sc (.bool nr),aM rr],hp,⟨[],[],false,false⟩)) :
  ∃ fr wr,aY (CC L5) run k 3 divC ⟨entry 45 [wh nx a,wh ny b],[],[]⟩=some ⟨fr,[⟨.live,[.sc (.bool nx),aM a]⟩,⟨.live,[.sc (.bool ny),aM b]⟩,⟨.live,[.sc (.bool nq),aM qq]⟩,⟨.live,[.sc (.bool nr),aM rr]⟩],wr⟩∧fr.length=45∧nth fr 2 = .ptr 0 0∧nth fr 3 = .ptr 1 0∧nth fr 4 = .ptr 2 0∧nth fr 5 = .ptr 3 0:=by
 obtain⟨e1,e2,e3⟩:=cC 43 (wh nx a) (wh ny b)
 generalize entry 45 [wh nx a,wh ny b]=fr0 at *
 have e4:∀ n l,wh n l = .agg [.sc (.bool n),aM l]:=fun _ _=>rfl
 rw[e4] at e2 e3
 cases nx <;> cases ny <;> simp only[bne_self_eq_false,Bool.bne_true,Bool.bne_false,Bool.not_false] at hc2 <;>
 simp[divC,Tryz.f151,aY,e1,e2,e3,af,aJ,ao,aq,aH,ag,ai,aQ,aj,an,aF,aC,FP.none,bd,dE,bL,partOf,aa,ae,ab,bh,and_assoc,bn,bX,bC,bg,hc1,hc2,hc3,uB,uW,sB,sD,sW,zW,aB,aD,wf0,wf1,aO,aU,aV,bO,br,cj,number,FP.free,cF,FP.apart]
def kA:Code→Array Oper
 | .region _ ops _=>ops
 | .cond _ a _=>kA a
 | _=>#[]
noncomputable def qf:Code:=seq1 (ah 3 divC)
theorem y9:ah 3 divC = .seq qf (ah 4 divC):=rfl
set_option maxHeartbeats 4000000 in
theorem Tz (run:ar)(k:Nat)(fr:List PV)(wr:List Nat)(nx ny nq nr:Bool)(a b qq rr:List Nat)(s:Int)(hne:s=0∨nx=ny)
  (hc4:∀ dr hp,cg (CC L5) run dr hp 101 [.agg [.sc (.bool nr),aM rr]]=some (.sc (.int .i64 s),hp,⟨[],[],false,false⟩))
  (h45:fr.length=45) (h2:nth fr 2 = .ptr 0 0) (h3:nth fr 3 = .ptr 1 0) (h4:nth fr 4 = .ptr 2 0) (h5:nth fr 5 = .ptr 3 0) :
  ∃ fr' wr',af (CC L5) run k qf ⟨fr,[⟨.live,[.sc (.bool nx),aM a]⟩,⟨.live,[.sc (.bool ny),aM b]⟩,⟨.live,[.sc (.bool nq),aM qq]⟩,⟨.live,[.sc (.bool nr),aM rr]⟩],wr⟩=some (.normal,⟨fr',[⟨.live,[.sc (.bool nx),aM a]⟩,⟨.live,[.sc (.bool ny),aM b]⟩,⟨.live,[.sc (.bool nq),aM qq]⟩,⟨.live,[.sc (.bool nr),aM rr]⟩],wr'⟩)∧fr'.length=45∧nth fr' 4 = .ptr 2 0∧nth fr' 5 = .ptr 3 0:=by
 by_cases hs:s=0
 ·subst hs
  simp[qf,divC,Tryz.f151,seq1,ah,h45,h4,h5,af,aJ,ao,aq,aH,ag,ai,aQ,aj,an,aF,aC,FP.none,bd,au,bj,aw,partOf,aa,ae,ab,bh,and_assoc,hc4,sW,aW,aU,aV,br,bG]
 ·have hn:nx=ny:=by rcases hne with h | h;exact absurd h hs;exact h
  subst hn
  have hs2:(s != 0)=true:=by simpa using hs
  cases nx <;> simp[qf,divC,Tryz.f151,seq1,ah,h45,h2,h3,h4,h5,af,aJ,ao,aq,aH,ag,ai,aQ,aj,an,aF,aC,FP.none,bd,au,bj,dE,aw,bL,partOf,aa,ae,ab,bh,and_assoc,hc4,hs2,uB,uW,sB,sW,aB,aW,wf0,wf1,aU,aV,br,bG]
theorem adB:((Region.before (kA (cA qf)))[6]?.getD 0).testBit 0=true:=by kernel_rfl
theorem adA:((Region.before (kA (cA qf)))[7]?.getD 0).testBit 3=true:=by kernel_rfl
theorem adz:((Region.before (kA (seq1 (ah 4 divC))))[2]?.getD 0).testBit 0=true:=by kernel_rfl
theorem ady:((Region.before (kA (seq1 (ah 4 divC))))[3]?.getD 0).testBit 1=true:=by kernel_rfl
set_option maxHeartbeats 4000000 in
theorem Ty (run:ar)(k:Nat)(fr:List PV)(wr:List Nat)(nx nq nr nq2 nr2:Bool)(a b qq rr qq2 rr2 one:List Nat)(s:Int)(hs:s≠0)
  (hc4:∀ dr hp,cg (CC L5) run dr hp 101 [.agg [.sc (.bool nr),aM rr]]=some (.sc (.int .i64 s),hp,⟨[],[],false,false⟩))
  (hc5:∀ dr hp,cg (CC L5) run dr hp 97 [.sc (.int .i64 1)]=some (.agg [.sc (.bool false),aM one],hp,⟨[],[],false,false⟩))
  (hc6:∀ dr hp,cg (CC L5) run dr hp 168 [.agg [.sc (.bool nq),aM qq],.agg [.sc (.bool false),aM one]]=some (.agg [.sc (.bool nq2),aM qq2],hp,⟨[],[],false,false⟩))
  (hc7:∀ dr hp,cg (CC L5) run dr hp 139 [.agg [.sc (.bool nr),aM rr],.agg [.sc (.bool (!nx)),aM b]]=some (.agg [.sc (.bool nr2),aM rr2],hp,⟨[],[],false,false⟩))
  (h45:fr.length=45) (h2:nth fr 2 = .ptr 0 0) (h3:nth fr 3 = .ptr 1 0) (h4:nth fr 4 = .ptr 2 0) (h5:nth fr 5 = .ptr 3 0) :
  ∃ fr' wr',af (CC L5) run k qf ⟨fr,[⟨.live,[.sc (.bool nx),aM a]⟩,⟨.live,[.sc (.bool (!nx)),aM b]⟩,⟨.live,[.sc (.bool nq),aM qq]⟩,⟨.live,[.sc (.bool nr),aM rr]⟩],wr⟩=some (.normal,⟨fr',[⟨.live,[.sc (.bool nx),aM a]⟩,⟨.live,[.sc (.bool (!nx)),aM b]⟩,⟨.live,[.sc (.bool nq2),aM qq2]⟩,⟨.live,[.sc (.bool nr2),aM rr2]⟩],wr'⟩)∧fr'.length=45∧nth fr' 4 = .ptr 2 0∧nth fr' 5 = .ptr 3 0:=by
 have hs2:(s != 0)=true:=by simpa using hs
 have hb1:=adB
 have hb2:=adA
 simp only[qf,divC,Tryz.f151,seq1,cA,ah,kA,Option.getD_some] at hb1 hb2
 cases nx <;> simp only[Bool.not_true,Bool.not_false] at hc7 ⊢ <;> simp[-Nat.testBit_zero,hb1,hb2,qf,divC,Tryz.f151,seq1,ah,h45,h2,h3,h4,h5,af,aJ,ao,aq,aH,ag,ai,aQ,aj,an,aF,aC,FP.none,bd,au,bj,dE,aw,bL,partOf,aa,ae,ab,bh,and_assoc,bn,bX,bC,bg,hc4,hc5,hc6,hc7,hs2,uB,uW,sB,sW,aB,aW,wf0,wf1,aU,aV,bO,cj,br,bG,number,FP.free,cF,FP.apart]
set_option maxHeartbeats 4000000 in
theorem Dn (L:Lst)(run:ar)(k:Nat)(fr:List PV)(wr:List Nat)(b0 b1:Blk)(nq nr:Bool)(qq rr:List Nat)(h45:fr.length=45)(h4:nth fr 4 = .ptr 2 0)(h5:nth fr 5 = .ptr 3 0) :
  ∃ st,af (CC L) run k (ah 4 divC) ⟨fr,[b0,b1,⟨.live,[.sc (.bool nq),aM qq]⟩,⟨.live,[.sc (.bool nr),aM rr]⟩],wr⟩=some (.ret,st)∧aZ TT st.fr st.hp Tryz.f151.results.toList=some [.agg [.sc (.bool nq),aM qq],.agg [.sc (.bool nr),aM rr]]:=by
 have hb1:=adz
 have hb2:=ady
 simp only[divC,Tryz.f151,seq1,ah,kA,Option.getD_some] at hb1 hb2
 simp[-Nat.testBit_zero,hb1,hb2,divC,Tryz.f151,ah,h45,h4,h5,af,aJ,ao,aq,aH,ag,ai,aj,an,aF,aC,partOf,aa,ae,ab,bh,bn,bX,bC,bg,sW,aW,aU,aV,bO,cj,br,bG,aZ,number,FP.free,cF,FP.apart]
theorem OP (n:Bool):sgn n 0=0:=by cases n <;> rfl
theorem Ou {n:Bool}{v:Nat}(h:v≠0):(sgn n v).sign≠0:=by
 intro h'
 have h2:=Int.sign_eq_zero_iff_zero.1 h'
 rw[qQ] at h2
 cases n <;> simp at h2 <;> omega
theorem TA (run:ar)(k:Nat)(x y:Int)(hx:Sm x)(hy:Sm y)(hy0:y.natAbs≠0) :
  ∃ st,af (CC L5) run k divC ⟨entry 45 [bq x,bq y],[],[]⟩=some (.ret,st)∧aZ TT st.fr st.hp Tryz.f151.results.toList=some [bq (me x y),bq (AF x y)]:=by
 obtain⟨q,rd,hc1,hq1,hq2,hq3,hr1,hr2,hr3⟩:=DI run false x.natAbs y.natAbs hx.le9 hy.le9 hy0
 have hm:=Nat.mod_lt x.natAbs (show 0<y.natAbs by omega)
 have hc2:=fun dr hp=>qD run dr hp (bx x != bx y) q hq1 hq3
 have hc3:=fun dr hp=>qD run dr hp (bx x) rd hr1 hr3
 rw[hq2] at hc2
 rw[hr2] at hc3
 have hRS:Sm (sgn (bx x) (x.natAbs % y.natAbs)):=hy.of_le (by rw[uJ];omega)
 have hQS:Sm (sgn (bx x != bx y) (x.natAbs / y.natAbs)):=hx.of_le (by rw[uJ];exact Nat.div_le_self _ _)
 have hc4:=fun dr hp=>Hk run dr hp _ hRS
 have hsg:x.natAbs % y.natAbs≠0→(sgn (bx x) (x.natAbs % y.natAbs)).sign≠0:=fun h=>Ou h
 have hsg0:x.natAbs % y.natAbs=0→(sgn (bx x) (x.natAbs % y.natAbs)).sign=0:=fun h=>by rw[h,OP];rfl
 obtain⟨Q,hQ⟩:∃ Q,Q=sgn (bx x != bx y) (x.natAbs / y.natAbs):=⟨_,rfl⟩
 obtain⟨R,hR⟩:∃ R,R=sgn (bx x) (x.natAbs % y.natAbs):=⟨_,rfl⟩
 have hdq:me x y=bif wH x y then Q - 1 else Q:=by rw[hQ];rfl
 have hdr:AF x y=bif wH x y then R+y else R:=by rw[hR];rfl
 rw[hdq,hdr]
 rw[← hQ] at hc2 hQS
 rw[← hR] at hc3 hc4 hRS hsg hsg0
 simp only[whW,Ab.bJ] at hc2 hc3 hc4
 obtain⟨f1,wr1,p1,p2,p3,p4,p5,p6⟩:=ZK run k (bx x) (bx y) (bx Q) (bx R) (aG x.natAbs) (aG y.natAbs) q rd (aG Q.natAbs) (aG R.natAbs) hc1 hc2 hc3
 by_cases hd:x.natAbs % y.natAbs≠0∧bx x≠bx y
 ·have hA:wH x y=true:=by
   have h1:(x.natAbs % y.natAbs).beq 0=false:=by
    cases e:x.natAbs % y.natAbs with
    | zero=>exact absurd e hd.1
    | succ n=>rfl
   have h2:(bx x != bx y)=true:=by simpa using hd.2
   simp[wH,h1,h2]
  have hn:bx y = !bx x:=by
   revert hd;cases bx x <;> cases bx y <;> simp
  have hc5:=fun dr hp=>Uw run dr hp
  have hc6:=fun dr hp=>Nj run dr hp Q 1 hQS (show Sm 1 by unfold Sm;decide)
  have hc7:=fun dr hp=>Nk run dr hp R y hRS hy
  rw[hA]
  simp only[cond_true]
  simp only[whW] at hc5 hc6 hc7
  rw[show bx (1:Int)=false from rfl] at hc5 hc6
  rw[hn] at hc7 p1
  obtain⟨f2,wr2,q1,q2,q3,q4⟩:=Ty run k f1 wr1 (bx x) (bx Q) (bx R) (bx (Q - 1)) (bx (R+y)) (aG x.natAbs) (aG y.natAbs) (aG Q.natAbs) (aG R.natAbs) (aG (Q - 1).natAbs) (aG (R+y).natAbs) (aG (1:Int).natAbs) R.sign (hsg hd.1) hc4 hc5 hc6 hc7 p2 p3 p4 p5 p6
  obtain⟨st,e1,e2⟩:=Dn L5 run k f2 wr2 ⟨.live,[.sc (.bool (bx x)),aM (aG x.natAbs)]⟩ ⟨.live,[.sc (.bool (!bx x)),aM (aG y.natAbs)]⟩ (bx (Q - 1)) (bx (R+y)) (aG (Q - 1).natAbs) (aG (R+y).natAbs) q2 q3 q4
  refine⟨st,?_,e2⟩
  rw[bq,bq,hn,aP 3 p1,y9,av q1]
  exact e1
 ·have hA:wH x y=false:=by
   by_cases h0:x.natAbs % y.natAbs=0
   ·simp[wH,h0]
   ·have h2:bx x=bx y:=by
     refine Classical.byContradiction fun h3=>hd ⟨h0,h3⟩
    simp[wH,h2]
  have hne:R.sign=0∨bx x=bx y:=by
   by_cases h0:x.natAbs % y.natAbs=0
   ·exact .inl (hsg0 h0)
   ·exact .inr (Classical.byContradiction fun h3=>hd ⟨h0,h3⟩)
  rw[hA]
  simp only[cond_false]
  obtain⟨f2,wr2,q1,q2,q3,q4⟩:=Tz run k f1 wr1 (bx x) (bx y) (bx Q) (bx R) (aG x.natAbs) (aG y.natAbs) (aG Q.natAbs) (aG R.natAbs) R.sign hne hc4 p2 p3 p4 p5 p6
  obtain⟨st,e1,e2⟩:=Dn L5 run k f2 wr2 ⟨.live,[.sc (.bool (bx x)),aM (aG x.natAbs)]⟩ ⟨.live,[.sc (.bool (bx y)),aM (aG y.natAbs)]⟩ (bx Q) (bx R) (aG Q.natAbs) (aG R.natAbs) q2 q3 q4
  refine⟨st,?_,e2⟩
  rw[bq,bq,aP 3 p1,y9,av q1]
  exact e1
def TB:List PV→Option (List PV)
 | [p,q]=>match fD p,fD q with
  | some x,some y=>bif !(y.natAbs.beq 0) then some [bq (me x y),bq (AF x y)] else none
  | _,_=>none
 | _=>none
theorem abH (hp:List Blk)(x y:Int):bt (snap hp bp) [bq x,bq y]=some ([bq x,bq y],[]):=rfl
theorem Tx:Ab.Spec base.P 151 TB:=Ab.Spec.bQ (C:=CC L5) (cV afx) fun args rs h=>by
 unfold TB at h
 split at h
 ·split at h
  ·rename_i x y ex ey
   obtain⟨rfl,hx⟩:=dV ex
   obtain⟨rfl,hy⟩:=dV ey
   by_cases hy0:y.natAbs=0
   ·rw[hy0] at h;simp at h
   ·rw[jY hy0] at h
    simp only[Bool.not_false,cond_true,Option.some.injEq] at h
    subst h
    obtain⟨st,e1,e2⟩:=TA (runK (CC L5) 1) 1 x y hx hy hy0
    exact⟨2,_,_,_,_,_,aX Ei rfl e1 e2,abH _ _ _,Wk.refl rfl,Wk.refl rfl,trivial⟩
  ·cases h
 ·cases h
end Go.Proofs.YtjdmodeenbdfpaaGreat
