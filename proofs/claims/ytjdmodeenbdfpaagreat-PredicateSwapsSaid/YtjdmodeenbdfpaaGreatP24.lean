/- Contracts of num's integers, part 24 of the proof; each lemma states its own conditions. -/
import Derived.Test.YtjdmodeenbdfpaaGreatP23
import Derived.Test.YtjdmodeenbdfpaaGreatP20
set_option linter.unusedSimpArgs false
set_option linter.unusedVariables false
namespace Go.Proofs.YtjdmodeenbdfpaaGreat
open Go Go.Ab
theorem ML:Ab.Spec base.P 182 Dl:=Ab.Spec.bL (C:=CC LK) (cU aeK) fun args rs h=>by
 unfold Dl at h
 split at h
 ·split at h
  ·rename_i a b ea eb
   obtain⟨rfl,ha,hla⟩:=dk ea
   obtain⟨rfl,hb,hlb⟩:=dk eb
   cases hc:tb b && Nat.ble 2 b.length && Nat.ble b.length a.length && Nat.ble a.length 900000 with
   | false=>rw[hc] at h;cases h
   | true =>
    rw[hc] at h
    simp only[cond_true,Option.some.injEq] at h
    subst h
    simp only[Bool.and_eq_true,Nat.ble_eq] at hc
    obtain⟨⟨⟨hc1,hc2⟩,hc3⟩,hc4⟩:=hc
    have hT:=lZ hc1
    obtain⟨mm,hmm⟩:∃ mm,b.length=mm+2:=⟨b.length - 2,by omega⟩
    obtain⟨k,hk⟩:∃ k,k=1000000000 / (at0 b (mm+1)+1):=⟨_,rfl⟩
    obtain⟨s1,s2,s3,s4,s5,s6⟩:=KS hb hT hmm hk
    have hblt:val a*k<1000000000 ^ (a.length+1):=by
     rw[Nat.pow_succ]
     exact Nat.lt_of_lt_of_le (Nat.mul_lt_mul_of_pos_right (eG ha) s1) (Nat.mul_le_mul_left _ (by omega))
    have hVlt:val b*k<1000000000 ^ (b.length+1):=by
     rw[Nat.pow_succ]
     exact Nat.lt_of_lt_of_le (Nat.mul_lt_mul_of_pos_right (eG hb) s1) (Nat.mul_le_mul_left _ (by omega))
    have hb0:0<val b:=by
     rcases Nat.eq_zero_or_pos (val b) with h | h
     ·rw[h] at s3
      have:0<1000000000 ^ (mm+1+1):=Nat.pow_pos (by omega)
      omega
     ·exact h
    obtain⟨f0,wr0,p1,p2,p3,p4⟩:=Mz LK (runK (CC LK) (a.length+3)) (a.length+3) (aL a) (aL b)
    obtain⟨f1,wr1,q1,q2,q3,q4,q5⟩:=My LK (runK (CC LK) (a.length+3)) (a.length+3) f0 wr0 a b (mm+1) _ _ k hb hlb hmm rfl rfl hk p2 p3 p4
    have hc1':=pV (a.length+2) false [] a k ha s2 hla (by omega)
    have hc2':=pV (a.length+2) false [⟨.live,(cT (a.length+1) (val a*k)).map dg⟩] b k hb s2 hlb (by omega)
    have hc3':=Hs (runK (CC LK) (a.length+3)) false [⟨.live,(cT (a.length+1) (val a*k)).map dg⟩,⟨.live,(cT (b.length+1) (val b*k)).map dg⟩] 1 (b.length+1) (cT (b.length+1) (val b*k)) (fY _ _) (de _ _) (by omega) rfl
    rw[fc _ _ hVlt] at hc3'
    obtain⟨f2,wr2,r1,r2,r3,r4,r5⟩:=Mx (runK (CC LK) (a.length+3)) (a.length+3) f1 wr1 a b (aA (val b*k)) _ _ k _ _ _ _ _ q2 q3 q4 q5 hc1' hc2' hc3'
    have hvl:(aA (val b*k)).length=b.length:=by rw[s5,hmm]
    obtain⟨f3,wr3,t1,t2,t3,t4,t5,t6,t7⟩:=Mw LK (runK (CC LK) (a.length+3)) (a.length+3) f2 wr2 (cT (a.length+1) (val a*k)) (cT (b.length+1) (val b*k)) (aA (val b*k)) (dg k) (a.length+1) (a.length+1 - b.length) (by omega) (by omega) r2 r3 r4 r5
    obtain⟨f4,w1,w2⟩:=XT LK (runK (CC LK) (a.length+3)) (a.length+3) f3 (hpL ⟨.ro,(cT (b.length+1) (val b*k)).map dg⟩ (cT (a.length+1) (val a*k)) (List.replicate (a.length+1 - b.length) 0)) wr3 (aA (val b*k)) (dg k) (a.length+1) (a.length+1 - b.length) b.length (by omega) (by omega) hvl t2 t3 t4 t5 t6 t7
    have hLI:=LI.init (a:=val a) (b:=val b) (k:=k) (n:=b.length) (la:=a.length) (u:=cT (a.length+1) (val a*k)) (by rw[fc _ _ hblt,Nat.mul_comm]) (fY _ _) (de _ _) (eG ha) (by rw[hmm];exact s3) s1 (by omega)
    have hvv:val (aA (val b*k))=k*val b:=by rw[bN,Nat.mul_comm]
    rw[← hvv] at hLI
    obtain⟨f5,wr5,u,q,x1,x2,x3,x4⟩:=yW LK (runK (CC LK) (a.length+3)) (a.length+3) ⟨.ro,(cT (b.length+1) (val b*k)).map dg⟩ _ (a.length+1) (a.length+1 - b.length) b.length mm (dg k) (aA (val b*k)) (bM _) hvl hmm (by omega) (by omega) (by omega) s6 (a.length+1 - b.length) f4 wr3 _ _ hLI (by omega) (by simp) w2
    rw[hvv] at x2
    obtain⟨y1,y2⟩:=x2.done s1 hb0
    have hul:=x2.ul
    have hmod:=Nat.mod_lt (val a) hb0
    have hsm:val u<1000000000 ^ b.length:=by
     rw[y2,hmm]
     refine Nat.lt_trans ?_ s4
     rw[Nat.mul_comm]
     exact Nat.mul_lt_mul_of_pos_right hmod s1
    have htk:=tU hsm
    have hc4':=Ee (runK (CC LK) (a.length+3)) false (hpL ⟨.ro,(cT (b.length+1) (val b*k)).map dg⟩ u q) 0 b.length k u x2.uok (by omega) (by omega) s1 s2 rfl
    rw[htk,y2,Nat.mul_div_cancel_left _ s1] at hc4'
    obtain⟨st,e1,e2,e3⟩:=MA (runK (CC LK) (a.length+3)) (a.length+3) f5 wr5 u q _ k (a.length+1) (a.length+1 - b.length) b.length 0 _ _ _ _ (by omega) x4 hc4'
    have hx:af (CC LK) (runK (CC LK) (a.length+3)) (a.length+3) gL ⟨entry 239 [aL a,aL b],[],[]⟩=some (.ret,st):=by
     rw[aO 1 p1,aO 1 q1,show ah 1 (ah 1 gL)=ah 2 gL from rfl,aO 1 r1,show ah 1 (ah 2 gL)=ah 3 gL from rfl,aO 2 t1,show ah 2 (ah 3 gL)=ah 5 gL from rfl,MG,
      aw ((aw w1).trans (bE (bQ x1 (by omega))))]
     exact e1
    have hq:q=cT (a.length+1 - b.length) (val a / val b):=x2.qok.ov (by have:=x2.ql;omega) y1
    have hs:=ug (hp:=[⟨.ro,u.map dg⟩,⟨.ro,(cT (b.length+1) (val b*k)).map dg⟩,⟨.live,q.map dg⟩]) (id:=2) (l:=q) rfl (a.length+1 - b.length) true (by omega) 10
    rw[List.take_of_length_le (by omega)] at hs
    refine⟨a.length+4,_,_,_,[.imm (a.length+1 - b.length) true (q.map dg),aL (cT b.length (val a % val b))],[2],aQ NM rfl hx e2,?_,?_,Wk.refl rfl,trivial⟩
    ·rw[e3]
     show bm (Ab.snap _ 12) _=_
     simp only[bm,hs]
     rfl
    ·rw[← hq]
     have:=Wk.imm (a.length+1 - b.length) true (q.map dg)
     rw[aL,x3]
     exact this
  ·cases h
 ·cases h
def zu (p:PV):Option Nat:=match gN p with
 | some l=>bif tb l then some (val l) else none
 | none=>none
theorem wM {p:PV}{n:Nat}(h:zu p=some n):p=aL (aA n)∧(aA n).length<1000000:=by
 unfold zu at h
 split at h
 ·rename_i l e
  obtain⟨h1,h2,h3⟩:=dk e
  cases ht:tb l with
  | false=>rw[ht] at h;cases h
  | true =>
   rw[ht] at h
   simp at h;subst h
   rw[jE h2 (lZ ht)]
   exact⟨h1,h3⟩
 ·cases h
theorem kN {n:Nat}(h:(aA n).length<1000000):zu (aL (aA n))=some n:=by
 simp[zu,cR (bM n) h,oU (iP n),bN]
noncomputable def L3:Lst:=[(167,jb),(146,o9),(181,kX),(182,Dl)]
theorem aeO:dK base.P L3:=⟨jt,qo,n9,ML,trivial⟩
theorem Xq:bt L3 146=fun a=>o9 (aJ a):=rfl
theorem RI:bt L3 181=fun a=>kX (aJ a):=rfl
theorem Xr:bt L3 182=fun a=>Dl (aJ a):=rfl
theorem pM {y:Nat}(h:1000000000≤y):2≤(aA y).length:=by
 rcases Nat.lt_or_ge (aA y).length 2 with h2 | h2
 ·have h3:=fq y
  have h4:(1000000000:Nat) ^ (aA y).length≤1000000000 ^ 1:=Nat.pow_le_pow_right (by omega) (by omega)
  omega
 ·exact h2
theorem Hw (run:aq)(dr:Bool)(hp:List Blk)(x y:Nat)(hx:(aA x).length≤900000)(hy:1000000000≤y)(hxy:y≤x) :
  bU (CC L3) run dr hp 182 [aL (aA x),aL (aA y)]=some (.tup [aL (cT ((aA x).length+1 - (aA y).length) (x / y)),aL (cT (aA y).length (x % y))],hp,⟨[],[],false,false⟩):=by
 have h1:=pM hy
 have h2:=cn hxy
 have h3:Nat.ble 2 (aA y).length=true:=Nat.ble_eq ▸ h1
 have h4:Nat.ble (aA y).length (aA x).length=true:=Nat.ble_eq ▸ h2
 have h5:Nat.ble (aA x).length 900000=true:=Nat.ble_eq ▸ hx
 exact bp VO Xr run dr hp _ [aL (cT ((aA x).length+1 - (aA y).length) (x / y)),aL (cT (aA y).length (x % y))] (lK hp _ _) (jG _ _)
  (by simp only[Dl,cR (bM x) (show (aA x).length<1000000 by omega),cR (bM y) (show (aA y).length<1000000 by omega),oU (iP y),h3,h4,h5,Bool.and_self,cond_true,bN])
theorem oG (run:aq)(dr:Bool)(hp:List Blk)(x y:Nat)(hx:(aA x).length<1000000)(hy:(aA y).length<1000000) :
  bU (CC L3) run dr hp 146 [aL (aA x),aL (aA y)]=some (Ab.bC (dH x y),hp,⟨[],[],false,false⟩) :=
 bp Iv Xq run dr hp _ [Ab.bC (dH x y)] (lK hp _ _) (jG _ _) (by simp only[o9,cR (bM _) hx,cR (bM _) hy,kV])
theorem Ei (run:aq)(dr:Bool)(hp:List Blk)(x b:Nat)(hx:(aA x).length<1000000)(hb:0<b)(hb2:b<1000000000) :
  bU (CC L3) run dr hp 181 [aL (aA x),dg b]=some (.tup [aL (cT (aA x).length (x / b)),dg (x % b)],hp,⟨[],[],false,false⟩):=by
 obtain⟨b,rfl⟩:∃ c,b=c+1:=⟨b - 1,by omega⟩
 exact bp BN RI run dr hp [aL (aA x),dg (b+1)] [aL (cT (aA x).length (x / (b+1))),dg (x % (b+1))] rfl (by simp only[aJ,fw];rfl) (by simp only[kX,cR (bM _) hx,Tv hb2,bN])
theorem Hv (run:aq)(dr:Bool)(hp:List Blk)(r:Nat)(hr:r<1000000000) :
  bU (CC L3) run dr hp 167 [.imm 1 true [dg r]]=some (aL (aA r),hp,⟨[],[],false,false⟩):=by
 have h3:(CC L3).orc 167 [.imm 1 true [dg r]]=some [aL (aA r)]:=by
  show jb (aJ [.imm 1 true [dg r]])=_
  have h1:aJ [.imm 1 true [dg r]]=[aL [r]]:=rfl
  have h2:Dok [r]:=Dok.nil.cons hr
  rw[h1]
  simp only[jb,cR h2 (by simp),eA h2]
  simp[val]
 have h4:bm (snap hp bh) [.imm 1 true [dg r]]=some ([.imm 1 true [dg r]],[]):=rfl
 exact dW tr h4 h3 rfl
noncomputable def qT:Code:=Tryz.f166.body.getD .skip
theorem CQ (run:aq)(k:Nat)(x y:Nat)(hx:(aA x).length<1000000)(hy:(aA y).length<1000000)(hxy:x<y) :
  ∃ st,af (CC L3) run k qT ⟨entry 35 [aL (aA x),aL (aA y)],[],[]⟩=some (.ret,st)∧aZ TT st.fr st.hp Tryz.f166.results.toList=some [.sc (.slice none 0 0),aL (aA x)]:=by
 have hc:=fun hp dr=>oG run dr hp x y hx hy
 rw[dH,if_pos hxy] at hc
 simp only[Ab.bC] at hc
 obtain⟨e1,e2,e3⟩:=cA 33 (aL (aA x)) (aL (aA y))
 generalize entry 35 [aL (aA x),aL (aA y)]=fr0 at *
 generalize aA x=a at *
 generalize aA y=b at *
 simp[qT,Tryz.f166,af,aH,an,ao,aG,ag,ai,aP,aj,ak,aC,az,FP.none,bc,ar,bd,au,aa,ae,ab,e1,e2,e3,hc,aZ]
theorem mG {y:Nat}(h:0<y)(h2:y<1000000000):aA y=[y]:=by
 rw[dM (by omega),Nat.mod_eq_of_lt h2,Nat.div_eq_of_lt h2,ff]
set_option maxHeartbeats 1000000 in
theorem CP (run:aq)(k:Nat)(x y:Nat)(hx:(aA x).length<1000000)(hy0:0<y)(hy:y<1000000000)(hxy:y≤x) :
  ∃ st,af (CC L3) run k qT ⟨entry 35 [aL (aA x),aL (aA y)],[],[]⟩=some (.ret,st)∧aZ TT st.fr st.hp Tryz.f166.results.toList=some [aL (cT (aA x).length (x / y)),aL (aA (x % y))]:=by
 have hly:(aA y).length<1000000:=by rw[mG hy0 hy];simp
 have hc:=fun hp dr=>oG run dr hp x y hx hly
 have hcz : ¬ (dH x y<0):=by
  unfold dH
  rw[if_neg (by omega)]
  by_cases h:x=y
  ·rw[if_pos h];omega
  ·rw[if_neg h];omega
 have hc2:=fun hp dr=>Ei run dr hp x y hx hy0 hy
 have hc3:=fun hp dr=>Hv run dr hp (x % y) (Nat.lt_trans (Nat.mod_lt _ hy0) hy)
 rw[mG hy0 hy] at hc ⊢
 simp only[Ab.bC] at hc
 obtain⟨e1,e2,e3⟩:=cA 33 (aL (aA x)) (aL [y])
 generalize entry 35 [aL (aA x),aL [y]]=fr0 at *
 generalize aA (x % y)=rr at *
 generalize cT (aA x).length (x / y)=qq at *
 generalize aA x=a at *
 generalize dH x y=cc at *
 generalize x % y=r at *
 have e4:aL [y] = .imm 1 false [dg y]:=rfl
 rw[e4] at hc e3
 simp[qT,Tryz.f166,af,aH,an,ao,aG,ag,ai,aP,aj,ak,aC,az,FP.none,bc,ar,bd,au,bH,ba,jo,partOf,aa,ae,ab,bf,cL,e1,e2,e3,hc,hc2,hc3,hcz,uD,s32,a32,aU,bn,mz,iZ,aZ]
set_option maxHeartbeats 1000000 in
theorem CO (run:aq)(k:Nat)(x y:Nat)(hx:(aA x).length≤900000)(hy:1000000000≤y)(hxy:y≤x) :
  ∃ st,af (CC L3) run k qT ⟨entry 35 [aL (aA x),aL (aA y)],[],[]⟩=some (.ret,st)∧aZ TT st.fr st.hp Tryz.f166.results.toList=some [aL (cT ((aA x).length+1 - (aA y).length) (x / y)),aL (cT (aA y).length (x % y))]:=by
 have hly:(aA y).length<1000000:=Nat.lt_of_le_of_lt (cn hxy) (by omega)
 have hc:=fun hp dr=>oG run dr hp x y (by omega) hly
 have hcz : ¬ (dH x y<0):=by
  unfold dH
  rw[if_neg (by omega)]
  by_cases h:x=y
  ·rw[if_pos h];omega
  ·rw[if_neg h];omega
 have hc2:=fun hp dr=>Hw run dr hp x y hx hy hxy
 have hl1:(((aA y).length:Int) == 1)=false:=by rw[beq_eq_false_iff_ne];have:=pM hy;omega
 simp only[Ab.bC] at hc
 obtain⟨e1,e2,e3⟩:=cA 33 (aL (aA x)) (aL (aA y))
 generalize entry 35 [aL (aA x),aL (aA y)]=fr0 at *
 generalize cT ((aA x).length+1 - (aA y).length) (x / y)=qq at *
 generalize cT (aA y).length (x % y)=rr at *
 generalize aA x=a at *
 generalize aA y=b at *
 generalize dH x y=cc at *
 simp[qT,Tryz.f166,af,aH,an,ao,aG,ag,ai,aP,aj,ak,aC,az,FP.none,bc,ar,bd,au,bH,aa,ae,ab,bf,ca,e1,e2,e3,hc,hc2,hcz,hl1,uD,aZ]
def jz:List PV→Option (List PV)
 | [p,q]=>match zu p,zu q with
  | some x,some y=>bif x.blt y then some [aL [],aL (aA x)] else bif y.blt 1000000000 then (bif y.beq 0 then none else some [aL (cT (aA x).length (x / y)),aL (aA (x % y))]) else
    bif (aA x).length.ble 900000 then some [aL (cT ((aA x).length+1 - (aA y).length) (x / y)),aL (cT (aA y).length (x % y))] else none
  | _,_=>none
 | _=>none
theorem kQ {x y:Nat}(h : ¬ x<y):x.blt y=false:=by
 cases e:x.blt y with
 | false=>rfl
 | true=>rw[Nat.blt_eq] at e;exact absurd e h
theorem jJ {y:Nat}(h:y≠0):y.beq 0=false:=by
 cases y with
 | zero=>exact absurd rfl h
 | succ y=>rfl
theorem om:Ab.Spec base.P 166 jz:=Ab.Spec.bL (C:=CC L3) (cU aeO) fun args rs h=>by
 unfold jz at h
 split at h
 ·split at h
  ·rename_i x y ex ey
   obtain⟨rfl,hx⟩:=wM ex
   obtain⟨rfl,hy⟩:=wM ey
   by_cases hb:x<y
   ·have hb':x.blt y=true:=by rw[Nat.blt_eq];exact hb
    rw[hb'] at h
    simp only[cond_true,Option.some.injEq] at h
    subst h
    obtain⟨st,e1,e2⟩:=CQ (runK (CC L3) 1) 1 x y hx hy hb
    exact⟨2,_,_,_,[.sc (.slice none 0 0),aL (aA x)],[],aQ oI rfl e1 e2,rfl,Wk.nil false,Wk.refl rfl,trivial⟩
   ·rw[kQ hb] at h
    by_cases hc:y<1000000000
    ·have hc':y.blt 1000000000=true:=by rw[Nat.blt_eq];exact hc
     rw[hc'] at h
     by_cases hy0:y=0
     ·subst hy0
      simp at h
     ·rw[jJ hy0] at h
      simp only[cond_true,cond_false,Option.some.injEq] at h
      subst h
      obtain⟨st,e1,e2⟩:=CP (runK (CC L3) 1) 1 x y hx (by omega) hc (by omega)
      exact⟨2,_,_,_,_,_,aQ oI rfl e1 e2,rfl,Wk.refl rfl,Wk.refl rfl,trivial⟩
    ·rw[kQ hc] at h
     cases hd:(aA x).length.ble 900000 with
     | false=>rw[hd] at h;simp at h
     | true =>
      rw[hd] at h
      simp only[cond_true,cond_false,Option.some.injEq] at h
      subst h
      obtain⟨st,e1,e2⟩:=CO (runK (CC L3) 1) 1 x y (by rw[Nat.ble_eq] at hd;exact hd) (by omega) (by omega)
      exact⟨2,_,_,_,_,_,aQ oI rfl e1 e2,rfl,Wk.refl rfl,Wk.refl rfl,trivial⟩
  ·cases h
 ·cases h
theorem vz (x y:Nat)(hx:(aA x).length≤900000)(hy:(aA y).length≤900000)(hy0:y≠0) :
  ∃ q r,jz [aL (aA x),aL (aA y)]=some [aL q,aL r]∧Dok q∧val q=x / y∧q.length<1000000∧Dok r∧val r=x % y∧r.length<1000000:=by
 have hx':(aA x).length<1000000:=by omega
 have hy':(aA y).length<1000000:=by omega
 have hm:=Nat.mod_lt x (show 0<y by omega)
 have hml:(aA (x % y)).length<1000000:=Nat.lt_of_le_of_lt (cn (Nat.le_of_lt hm)) hy'
 by_cases hb:x<y
 ·have hb':x.blt y=true:=by rw[Nat.blt_eq];exact hb
  exact⟨[],aA x,by simp only[jz,kN hx',kN hy',hb',cond_true],Dok.nil,by rw[Nat.div_eq_of_lt hb];rfl,by simp,bM _,by rw[bN,Nat.mod_eq_of_lt hb],hx'⟩
 ·by_cases hc:y<1000000000
  ·have hc':y.blt 1000000000=true:=by rw[Nat.blt_eq];exact hc
   exact⟨_,_,by simp only[jz,kN hx',kN hy',kQ hb,hc',jJ hy0,cond_true,cond_false],fY _ _,fc _ _ (Nat.lt_of_le_of_lt (Nat.div_le_self x y) (fq x)),by rw[de];exact hx',bM _,bN _,hml⟩
  ·have hd:(aA x).length.ble 900000=true:=by rw[Nat.ble_eq];exact hx
   have h2:=pM (show 1000000000≤y by omega)
   have hle:=cn (show y≤x by omega)
   refine⟨cT ((aA x).length+1 - (aA y).length) (x / y),cT (aA y).length (x % y),by simp only[jz,kN hx',kN hy',kQ hb,kQ hc,hd,cond_true,cond_false],fY _ _,fc _ _ ?_,by rw[de];omega,fY _ _,fc _ _ (Nat.lt_trans hm (fq y)),by rw[de];exact hy'⟩
   have h3:=fq x
   have h4:1000000000 ^ ((aA y).length - 1)≤y:=by
    rcases Nat.lt_or_ge y (1000000000 ^ ((aA y).length - 1)) with h | h
    ·have:=cY h;omega
    ·exact h
   refine Nat.div_lt_of_lt_mul ?_
   refine Nat.lt_of_lt_of_le h3 (Nat.le_trans ?_ (Nat.mul_le_mul_right _ h4))
   rw[← Nat.pow_add]
   exact Nat.pow_le_pow_right (by omega) (by omega)
noncomputable def L4:Lst:=[(167,jb),(166,jz),(165,xK),(164,um),(97,ofF)]
theorem aeN:dK base.P L4:=⟨jt,om,xI,uj,nk,trivial⟩
theorem Xp:bt L4 167=fun a=>jb (aJ a):=rfl
theorem RH:bt L4 166=fun a=>jz (aJ a):=rfl
theorem Xo:bt L4 165=fun a=>xK (aJ a):=rfl
theorem RG:bt L4 164=fun a=>um (aJ a):=rfl
theorem adY:bt L4 97=fun a=>ofF (aJ a):=rfl
theorem Hu (run:aq)(dr:Bool)(hp:List Blk)(r:List Nat)(hd:Dok r)(hr:r.length<1000000) :
  bU (CC L4) run dr hp 167 [aL r]=some (aL (aA (val r)),hp,⟨[],[],false,false⟩) :=
 bp tr Xp run dr hp _ [aL (aA (val r))] rfl (by simp only[aJ,fw]) (by simp only[jb,cR hd hr,eA hd])
theorem Eh (run:aq)(dr:Bool)(hp:List Blk)(x y:Nat)(hx:(aA x).length≤900000)(hy:(aA y).length≤900000)(hy0:y≠0) :
  ∃ q r,bU (CC L4) run dr hp 166 [aL (aA x),aL (aA y)]=some (.tup [aL q,aL r],hp,⟨[],[],false,false⟩)∧Dok r∧val r=x % y∧r.length<1000000:=by
 obtain⟨q,r,h1,h2,h3,h4,h5,h6,h7⟩:=vz x y hx hy hy0
 exact⟨q,r,bp BV RH run dr hp [aL (aA x),aL (aA y)] [aL q,aL r] (lK hp _ _) (jG _ _) h1,h5,h6,h7⟩
theorem wW (run:aq)(dr:Bool)(hp:List Blk)(x:Nat)(hx:(aA x).length≤2) :
  bU (CC L4) run dr hp 165 [aL (aA x)]=some (Ab.bC (Int.ofNat x),hp,⟨[],[],false,false⟩) :=
 bp VG Xo run dr hp _ [Ab.bC (Int.ofNat x)] rfl (by simp only[aJ,fw]) (by
  have:(aA x).length.ble 2=true:=by rw[Nat.ble_eq];exact hx
  simp only[xK,cR (bM x) (show (aA x).length<1000000 by omega),this,cond_true,bN])
theorem Eg (run:aq)(dr:Bool)(hp:List Blk)(x y:Nat) :
  bU (CC L4) run dr hp 164 [.sc (.int .i64 (x:Int)),.sc (.int .i64 (y:Int))]=some (.sc (.int .i64 ((Nat.gcd x y:Nat):Int)),hp,⟨[],[],false,false⟩) :=
 bp OC RG run dr hp _ [Ab.bC (Int.ofNat (Nat.gcd x y))] rfl rfl rfl
theorem Ui (run:aq)(dr:Bool)(hp:List Blk)(x:Nat)(hx:x<9223372036854775808) :
  bU (CC L4) run dr hp 97 [.sc (.int .i64 (x:Int))]=some (bk (Int.ofNat x),hp,⟨[],[],false,false⟩) :=
 bp x6 adY run dr hp _ [bk (Int.ofNat x)] rfl rfl (by
  have h1:decide (-9223372036854775808≤(x:Int))=true:=decide_eq_true (by omega)
  have h2:decide ((x:Int)<9223372036854775808)=true:=decide_eq_true (by omega)
  simp only[ofF,h1,h2,Bool.and_self,cond_true];rfl)
theorem Sm.le9 {z:Int}(h:Sm z):(aA z.natAbs).length≤900000:=Nat.le_of_lt (Nat.lt_trans h (by decide))
noncomputable def Dz:Code:=Tryz.f150.body.getD .skip
noncomputable def xu:Code:=((Tryz.f150.body).bind aF).getD .skip
abbrev zW2:Blk:=⟨.live,[.sc (.bool false),.sc (.slice none 0 0)]⟩
theorem Yl (L:Lst)(run:aq)(k:Nat)(fr:List PV)(hp:List Blk)(wr:List Nat)(h41:fr.length=41)(h6:nth fr 6=aL []) :
  ∃ fr',af (CC L) run k xu ⟨fr,hp,wr⟩=some (.exit 0,⟨fr',hp,wr⟩)∧fr'.length=41∧nth fr' 4=nth fr 4∧nth fr' 5=nth fr 5:=by
 simp[xu,Tryz.f150,aF,af,aH,an,ao,aG,ag,ai,aj,ak,aC,az,FP.none,bc,ar,bd,au,bH,aa,ae,ab,bf,ca,h41,h6,uD]
set_option maxHeartbeats 1000000 in
theorem MQ (run:aq)(k:Nat)(fr:List PV)(hp:List Blk)(wr:List Nat)(x y:Nat)(hx:(aA x).length≤900000)(hy:(aA y).length≤900000)(hy0:y≠0)(hns : ¬ ((aA x).length≤2∧(aA y).length≤2))
  (h41:fr.length=41) (h5:nth fr 5=aL (aA x)) (h6:nth fr 6=aL (aA y)) :
  ∃ fr',af (CC L4) run k xu ⟨fr,hp,wr⟩=some (.normal,⟨fr',hp,wr⟩)∧fr'.length=41∧nth fr' 4=nth fr 4∧nth fr' 5=aL (aA y)∧nth fr' 6=aL (aA (x % y)):=by
 obtain⟨q,rr,hc,hr1,hr2,hr3⟩:=Eh run false hp x y hx hy hy0
 have hc2:=fun dr=>Hu run dr hp rr hr1 hr3
 rw[hr2] at hc2
 have hp0:=(cN (n:=y)).2 hy0
 have hne:aA y≠[]:=by intro e;rw[e] at hp0;simp at hp0
 generalize aA (x % y)=r at *
 generalize aA x=a at *
 generalize aA y=b at *
 by_cases h2:a.length≤2
 ·have h3 : ¬ (b.length≤2):=fun h=>hns ⟨h2,h⟩
  simp[xu,Tryz.f150,aF,af,aH,an,ao,aG,ag,ai,aP,aj,ak,aC,az,FP.none,bc,ar,bd,au,bH,aa,ae,ab,bf,ca,abP,h41,h5,h6,uD,hp0,h2,h3,hc,hc2]
 ·simp[xu,Tryz.f150,aF,af,aH,an,ao,aG,ag,ai,aP,aj,ak,aC,az,FP.none,bc,ar,bd,au,bH,aa,ae,ab,bf,ca,abP,h41,h5,h6,uD,hp0,h2,hc,hc2]
set_option maxHeartbeats 1000000 in
theorem Yi (run:aq)(k:Nat)(fr:List PV)(b0 b1:Blk)(wr:List Nat)(x y:Nat)(hx:(aA x).length≤2)(hy:(aA y).length≤2)(hy0:y≠0)(h41:fr.length=41)(h4:nth fr 4 = .ptr 2 0)(h5:nth fr 5=aL (aA x))(h6:nth fr 6=aL (aA y)) :
  ∃ fr' wr',af (CC L4) run k xu ⟨fr,[b0,b1,zW2],wr⟩=some (.ret,⟨fr',[b0,b1,⟨.live,[.sc (.bool false),aL (aA (Nat.gcd x y))]⟩],wr'⟩)∧nth fr' 4 = .ptr 2 0:=by
 have hc1:=fun dr=>wW run dr [b0,b1,zW2] x hx
 have hc2:=fun dr=>wW run dr [b0,b1,zW2] y hy
 have hc3:=fun dr=>Eg run dr [b0,b1,zW2] x y
 have hg:Nat.gcd x y<9223372036854775808:=by
  have h1:=fq y
  have h2:=Nat.pow_le_pow_right (n:=1000000000) (by omega) hy
  have h3:=Nat.gcd_le_right x (show 0<y by omega)
  have h4:1000000000 ^ 2<9223372036854775808:=by decide
  omega
 have hc4:=fun dr=>Ui run dr [b0,b1,zW2] (Nat.gcd x y) hg
 simp only[Ab.bC,Int.ofNat_eq_natCast] at hc1 hc2
 rw[show bk (Int.ofNat (Nat.gcd x y)) = .agg [.sc (.bool false),aL (aA (Nat.gcd x y))] from rfl] at hc4
 have hp0:=(cN (n:=y)).2 hy0
 have hne:aA y≠[]:=by intro e;rw[e] at hp0;simp at hp0
 generalize aA (Nat.gcd x y)=g at *
 generalize Nat.gcd x y=gg at *
 generalize aA x=a at *
 generalize aA y=b at *
 simp[xu,Tryz.f150,aF,af,aH,an,ao,aG,ag,ai,aP,aj,ak,aC,az,FP.none,bc,ar,bd,au,bH,aa,ae,ab,bf,and_assoc,ca,bg,bO,bx,aX,abP,h41,h4,h5,h6,uD,hp0,hx,hy,hc1,hc2,hc3,hc4,aV,bP,bZ,sW]
theorem Dy (run:aq)(k:Nat)(b0 b1:Blk) :
  ∀ (n y x:Nat) (fr:List PV) (wr:List Nat),y<n→(aA x).length≤900000→(aA y).length≤900000→fr.length=41→nth fr 4 = .ptr 2 0→nth fr 5=aL (aA x)→nth fr 6=aL (aA y) →
  (∃ fr' wr',bX (af (CC L4) run k xu) n ⟨fr,[b0,b1,zW2],wr⟩=some (.exit 0,⟨fr',[b0,b1,zW2],wr'⟩)∧fr'.length=41∧nth fr' 4 = .ptr 2 0∧nth fr' 5=aL (aA (Nat.gcd x y))) ∨
  (∃ fr' wr',bX (af (CC L4) run k xu) n ⟨fr,[b0,b1,zW2],wr⟩=some (.ret,⟨fr',[b0,b1,⟨.live,[.sc (.bool false),aL (aA (Nat.gcd x y))]⟩],wr'⟩)∧nth fr' 4 = .ptr 2 0)
 | 0,y,x,fr,wr,hn,_,_,_,_,_,_=>by omega
 | n+1,y,x,fr,wr,hn,hx,hy,h41,h4,h5,h6=>by
  by_cases hy0:y=0
  ·subst hy0
   obtain⟨fr',g1,g2,g3,g4⟩:=Yl L4 run k fr [b0,b1,zW2] wr h41 h6
   exact .inl ⟨fr',wr,bw g1,g2,by rw[g3,h4],by rw[g4,h5,Nat.gcd_zero_right]⟩
  ·by_cases hs:(aA x).length≤2∧(aA y).length≤2
   ·obtain⟨fr',wr',g1,g2⟩:=Yi run k fr b0 b1 wr x y hs.1 hs.2 hy0 h41 h4 h5 h6
    exact .inr ⟨fr',wr',eN g1,g2⟩
   ·obtain⟨fr1,g1,g2,g3,g4,g5⟩:=MQ run k fr [b0,b1,zW2] wr x y hx hy hy0 hs h41 h5 h6
    have hm:=Nat.mod_lt x (show 0<y by omega)
    have:=Dy run k b0 b1 n (x % y) y fr1 wr (by omega) hy (Nat.le_trans (cn (Nat.le_of_lt hm)) hy) g2 (by rw[g3,h4]) g4 g5
    rw[bV g1]
    rw[Nat.gcd_comm y (x % y),← Nat.gcd_rec,Nat.gcd_comm y x] at this
    exact this
theorem zb:ah 2 Dz = .seq (.block 0 (.loop xu)) (ah 3 Dz):=rfl
theorem Yk (L:Lst)(run:aq)(k:Nat)(na nb:Bool)(a b:List Nat) :
  ∃ fr wr,aY (CC L) run k 2 Dz ⟨entry 41 [wh na a,wh nb b],[],[]⟩=some ⟨fr,[⟨.live,[.sc (.bool na),aL a]⟩,⟨.live,[.sc (.bool nb),aL b]⟩,zW2],wr⟩∧fr.length=41∧nth fr 4 = .ptr 2 0∧nth fr 5=aL a∧nth fr 6=aL b:=by
 obtain⟨e1,e2,e3⟩:=cA 39 (wh na a) (wh nb b)
 generalize entry 41 [wh na a,wh nb b]=fr0 at *
 have e4:∀ n l,wh n l = .agg [.sc (.bool n),aL l]:=fun _ _=>rfl
 rw[e4] at e2 e3
 simp[Dz,Tryz.f150,aY,e1,e2,e3,af,aH,an,ao,aG,ag,ai,aj,ak,aC,az,FP.none,bG,partOf,aa,ae,ab,bf,and_assoc,bg,uW,sD,zW,aD,wf0,wf1,aM,aU,aV,bn,number,FP.free,cB,FP.apart]
theorem SL (L:Lst)(run:aq)(k:Nat)(fr:List PV)(b0 b1:Blk)(wr:List Nat)(a:List Nat)(h41:fr.length=41)(h4:nth fr 4 = .ptr 2 0)(h5:nth fr 5=aL a) :
  ∃ st,af (CC L) run k (ah 3 Dz) ⟨fr,[b0,b1,zW2],wr⟩=some (.ret,st)∧aZ TT st.fr st.hp Tryz.f150.results.toList=some [.agg [.sc (.bool false),aL a]]:=by
 simp[Dz,Tryz.f150,ah,af,aH,an,ao,aG,ag,ai,aj,ak,aC,az,FP.none,au,partOf,aa,ae,ab,bf,wP,bg,jF,bO,bx,aX,h41,h4,h5,eE,zW,uW,wf0,wf1,sB,sD,sW,aW,dF,jy,bZ,aZ,aU,aV,bP,bn,bA]
theorem Yj (fr:List PV)(b0 b1:Blk)(a:List Nat)(h4:nth fr 4 = .ptr 2 0):aZ TT fr [b0,b1,⟨.live,[.sc (.bool false),aL a]⟩] Tryz.f150.results.toList=some [.agg [.sc (.bool false),aL a]]:=by
 simp[Tryz.f150,aZ,h4,aU,aV,bn,partOf,aW,sW,bA]
def xt:List PV→Option (List PV)
 | [p,q]=>match fC p,fC q with
  | some x,some y=>some [bk (Int.ofNat (Nat.gcd x.natAbs y.natAbs))]
  | _,_=>none
 | _=>none
theorem wg:Ab.Spec base.P 150 xt:=Ab.Spec.bL (C:=CC L4) (cU aeN) fun args rs h=>by
 unfold xt at h
 split at h
 ·split at h
  ·rename_i x y ex ey
   obtain⟨rfl,hx⟩:=dJ ex
   obtain⟨rfl,hy⟩:=dJ ey
   simp only[Option.some.injEq] at h
   subst h
   obtain⟨f1,wr1,p1,p2,p3,p4,p5⟩:=Yk L4 (runK (CC L4) (y.natAbs+1)) (y.natAbs+1) (bq x) (bq y) (aA x.natAbs) (aA y.natAbs)
   rcases Dy (runK (CC L4) (y.natAbs+1)) (y.natAbs+1) ⟨.live,[.sc (.bool (bq x)),aL (aA x.natAbs)]⟩ ⟨.live,[.sc (.bool (bq y)),aL (aA y.natAbs)]⟩ (y.natAbs+1) y.natAbs x.natAbs f1 wr1 (by omega) hx.le9 hy.le9 p2 p3 p4 p5 with ⟨f2,wr2,q1,q2,q3,q4⟩| ⟨f2,wr2,q1,q2⟩
   ·obtain⟨st,e1,e2⟩:=SL L4 (runK (CC L4) (y.natAbs+1)) (y.natAbs+1) f2 _ _ wr2 _ q2 q3 q4
    have hx:af (CC L4) (runK (CC L4) (y.natAbs+1)) (y.natAbs+1) Dz ⟨entry 41 [bk x,bk y],[],[]⟩=some (.ret,st):=by
     rw[bk,bk,aO 2 p1,zb,aw (bE q1)]
     exact e1
    exact⟨y.natAbs+2,_,_,_,_,_,aQ EG rfl hx e2,iL _ (Int.ofNat (Nat.gcd x.natAbs y.natAbs)),Wk.refl rfl,trivial⟩
   ·have hx:af (CC L4) (runK (CC L4) (y.natAbs+1)) (y.natAbs+1) Dz ⟨entry 41 [bk x,bk y],[],[]⟩=some (.ret,⟨f2,[⟨.live,[.sc (.bool (bq x)),aL (aA x.natAbs)]⟩,⟨.live,[.sc (.bool (bq y)),aL (aA y.natAbs)]⟩,⟨.live,[.sc (.bool false),aL (aA (Nat.gcd x.natAbs y.natAbs))]⟩],wr2⟩):=by
     rw[bk,bk,aO 2 p1,zb,cg (cW q1)]
    exact⟨y.natAbs+2,_,_,_,_,_,aQ EG rfl hx (Yj f2 _ _ _ q2),iL _ (Int.ofNat (Nat.gcd x.natAbs y.natAbs)),Wk.refl rfl,trivial⟩
  ·cases h
 ·cases h
noncomputable def L5:Lst:=[(166,jz),(152,fH),(101,jc),(97,ofF),(168,J2),(139,tl)]
theorem aeM:dK base.P L5:=⟨om,jL,kz,nk,Bw,pZ,trivial⟩
theorem RE:bt L5 166=fun a=>jz (aJ a):=rfl
theorem Mm:bt L5 152=fun a=>fH (aJ a):=rfl
theorem Xn:bt L5 101=fun a=>jc (aJ a):=rfl
theorem adX:bt L5 97=fun a=>ofF (aJ a):=rfl
theorem abt:bt L5 168=fun a=>J2 (aJ a):=rfl
theorem abu:bt L5 139=fun a=>tl (aJ a):=rfl
theorem Ef (run:aq)(dr:Bool)(x y:Nat)(hx:(aA x).length≤900000)(hy:(aA y).length≤900000)(hy0:y≠0) :
  ∃ q r,(∀ hp,bU (CC L5) run dr hp 166 [aL (aA x),aL (aA y)]=some (.tup [aL q,aL r],hp,⟨[],[],false,false⟩))∧Dok q∧val q=x / y∧q.length<1000000∧Dok r∧val r=x % y∧r.length<1000000:=by
 obtain⟨q,r,h1,h2⟩:=vz x y hx hy hy0
 exact⟨q,r,fun hp=>bp BV RE run dr hp [aL (aA x),aL (aA y)] [aL q,aL r] (lK hp _ _) (jG _ _) h1,h2⟩
theorem pW (run:aq)(dr:Bool)(hp:List Blk)(n:Bool)(l:List Nat)(hd:Dok l)(hl:l.length<1000000) :
  bU (CC L5) run dr hp 152 [.sc (.bool n),aL l]=some (bk (sgn n (val l)),hp,⟨[],[],false,false⟩) :=
 bp m7 Mm run dr hp _ [bk (sgn n (val l))] (JI hp n l) (Ea n l) (by simp only[fH,cR hd hl])
theorem Ht (run:aq)(dr:Bool)(hp:List Blk)(x:Int)(hx:Sm x):bU (CC L5) run dr hp 101 [bk x]=some (Ab.bC x.sign,hp,⟨[],[],false,false⟩) :=
 bp tt Xn run dr hp _ [Ab.bC x.sign] (lJ hp x) (jm x) (by simp only[jc,cC hx])
theorem Uh (run:aq)(dr:Bool)(hp:List Blk):bU (CC L5) run dr hp 97 [.sc (.int .i64 1)]=some (bk 1,hp,⟨[],[],false,false⟩) :=
 bp x6 adX run dr hp _ [bk 1] rfl rfl rfl
theorem Nq (run:aq)(dr:Bool)(hp:List Blk)(x y:Int)(hx:Sm x)(hy:Sm y):bU (CC L5) run dr hp 168 [bk x,bk y]=some (bk (x - y),hp,⟨[],[],false,false⟩) :=
 bp aaE abt run dr hp _ [bk (x - y)] (gj hp x y) (fg x y) (by simp only[J2,cC hx,cC hy])
theorem Nr (run:aq)(dr:Bool)(hp:List Blk)(x y:Int)(hx:Sm x)(hy:Sm y):bU (CC L5) run dr hp 139 [bk x,bk y]=some (bk (x+y),hp,⟨[],[],false,false⟩) :=
 bp Fp abu run dr hp _ [bk (x+y)] (gj hp x y) (fg x y) (by simp only[tl,cC hx,cC hy])
noncomputable def divC:Code:=Tryz.f151.body.getD .skip
def wH (x y:Int):Bool := !(x.natAbs % y.natAbs).beq 0 && (bq x != bq y)
def lE (x y:Int):Int:=bif wH x y then sgn (bq x != bq y) (x.natAbs / y.natAbs) - 1 else sgn (bq x != bq y) (x.natAbs / y.natAbs)
def AX (x y:Int):Int:=bif wH x y then sgn (bq x) (x.natAbs % y.natAbs)+y else sgn (bq x) (x.natAbs % y.natAbs)
theorem Sm.of_le {x y:Int}(h:Sm y)(hl:x.natAbs≤y.natAbs):Sm x:=Nat.lt_of_le_of_lt (cn hl) h
theorem uw (n:Bool)(v:Nat):(sgn n v).natAbs=v:=by
 rw[qv];cases n <;> simp
set_option maxHeartbeats 4000000 in
theorem YR (run:aq)(k:Nat)(nx ny nq nr:Bool)(a b qd rd qq rr:List Nat)
  (hc1:∀ hp,bU (CC L5) run false hp 166 [aL a,aL b]=some (.tup [aL qd,aL rd],hp,⟨[],[],false,false⟩))
  (hc2:∀ dr hp,bU (CC L5) run dr hp 152 [.sc (.bool (nx != ny)),aL qd]=some (.agg [.sc (.bool nq),aL qq],hp,⟨[],[],false,false⟩))
  (hc3:∀ dr hp,bU (CC L5) run dr hp 152 [.sc (.bool nx),aL rd]=some (.agg [.sc (.bool nr),aL rr],hp,⟨[],[],false,false⟩)) :
  ∃ fr wr,aY (CC L5) run k 3 divC ⟨entry 45 [wh nx a,wh ny b],[],[]⟩=some ⟨fr,[⟨.live,[.sc (.bool nx),aL a]⟩,⟨.live,[.sc (.bool ny),aL b]⟩,⟨.live,[.sc (.bool nq),aL qq]⟩,⟨.live,[.sc (.bool nr),aL rr]⟩],wr⟩∧fr.length=45∧nth fr 2 = .ptr 0 0∧nth fr 3 = .ptr 1 0∧nth fr 4 = .ptr 2 0∧nth fr 5 = .ptr 3 0:=by
 obtain⟨e1,e2,e3⟩:=cA 43 (wh nx a) (wh ny b)
 generalize entry 45 [wh nx a,wh ny b]=fr0 at *
 have e4:∀ n l,wh n l = .agg [.sc (.bool n),aL l]:=fun _ _=>rfl
 rw[e4] at e2 e3
 cases nx <;> cases ny <;> simp only[bne_self_eq_false,Bool.bne_true,Bool.bne_false,Bool.not_false] at hc2 <;>
 simp[divC,Tryz.f151,aY,e1,e2,e3,af,aH,an,ao,aG,ag,ai,aP,aj,ak,aC,az,FP.none,bc,dz,bG,partOf,aa,ae,ab,bf,and_assoc,bg,bO,bx,aX,hc1,hc2,hc3,uB,uW,sB,sD,sW,zW,aB,aD,wf0,wf1,aM,aU,aV,bP,bn,bZ,number,FP.free,cB,FP.apart]
def j9:Code→Array Oper
 | .region _ ops _=>ops
 | .cond _ a _=>j9 a
 | _=>#[]
noncomputable def pL:Code:=seq1 (ah 3 divC)
theorem zo:ah 3 divC = .seq pL (ah 4 divC):=rfl
set_option maxHeartbeats 4000000 in
theorem Tn (run:aq)(k:Nat)(fr:List PV)(wr:List Nat)(nx ny nq nr:Bool)(a b qq rr:List Nat)(s:Int)(hne:s=0∨nx=ny)
  (hc4:∀ dr hp,bU (CC L5) run dr hp 101 [.agg [.sc (.bool nr),aL rr]]=some (.sc (.int .i64 s),hp,⟨[],[],false,false⟩))
  (h45:fr.length=45) (h2:nth fr 2 = .ptr 0 0) (h3:nth fr 3 = .ptr 1 0) (h4:nth fr 4 = .ptr 2 0) (h5:nth fr 5 = .ptr 3 0) :
  ∃ fr' wr',af (CC L5) run k pL ⟨fr,[⟨.live,[.sc (.bool nx),aL a]⟩,⟨.live,[.sc (.bool ny),aL b]⟩,⟨.live,[.sc (.bool nq),aL qq]⟩,⟨.live,[.sc (.bool nr),aL rr]⟩],wr⟩=some (.normal,⟨fr',[⟨.live,[.sc (.bool nx),aL a]⟩,⟨.live,[.sc (.bool ny),aL b]⟩,⟨.live,[.sc (.bool nq),aL qq]⟩,⟨.live,[.sc (.bool nr),aL rr]⟩],wr'⟩)∧fr'.length=45∧nth fr' 4 = .ptr 2 0∧nth fr' 5 = .ptr 3 0:=by
 by_cases hs:s=0
 ·subst hs
  simp[pL,divC,Tryz.f151,seq1,ah,h45,h4,h5,af,aH,an,ao,aG,ag,ai,aP,aj,ak,aC,az,FP.none,bc,ar,bd,au,partOf,aa,ae,ab,bf,and_assoc,hc4,sW,aW,aU,aV,bn,bA]
 ·have hn:nx=ny:=by rcases hne with h | h;exact absurd h hs;exact h
  subst hn
  have hs2:(s != 0)=true:=by simpa using hs
  cases nx <;> simp[pL,divC,Tryz.f151,seq1,ah,h45,h2,h3,h4,h5,af,aH,an,ao,aG,ag,ai,aP,aj,ak,aC,az,FP.none,bc,ar,bd,dz,au,bG,partOf,aa,ae,ab,bf,and_assoc,hc4,hs2,uB,uW,sB,sW,aB,aW,wf0,wf1,aU,aV,bn,bA]
theorem acw:((Region.before (j9 (cu pL)))[6]?.getD 0).testBit 0=true:=by kernel_rfl
theorem acv:((Region.before (j9 (cu pL)))[7]?.getD 0).testBit 3=true:=by kernel_rfl
theorem acu:((Region.before (j9 (seq1 (ah 4 divC))))[2]?.getD 0).testBit 0=true:=by kernel_rfl
theorem acs:((Region.before (j9 (seq1 (ah 4 divC))))[3]?.getD 0).testBit 1=true:=by kernel_rfl
set_option maxHeartbeats 4000000 in
theorem Tm (run:aq)(k:Nat)(fr:List PV)(wr:List Nat)(nx nq nr nq2 nr2:Bool)(a b qq rr qq2 rr2 one:List Nat)(s:Int)(hs:s≠0)
  (hc4:∀ dr hp,bU (CC L5) run dr hp 101 [.agg [.sc (.bool nr),aL rr]]=some (.sc (.int .i64 s),hp,⟨[],[],false,false⟩))
  (hc5:∀ dr hp,bU (CC L5) run dr hp 97 [.sc (.int .i64 1)]=some (.agg [.sc (.bool false),aL one],hp,⟨[],[],false,false⟩))
  (hc6:∀ dr hp,bU (CC L5) run dr hp 168 [.agg [.sc (.bool nq),aL qq],.agg [.sc (.bool false),aL one]]=some (.agg [.sc (.bool nq2),aL qq2],hp,⟨[],[],false,false⟩))
  (hc7:∀ dr hp,bU (CC L5) run dr hp 139 [.agg [.sc (.bool nr),aL rr],.agg [.sc (.bool (!nx)),aL b]]=some (.agg [.sc (.bool nr2),aL rr2],hp,⟨[],[],false,false⟩))
  (h45:fr.length=45) (h2:nth fr 2 = .ptr 0 0) (h3:nth fr 3 = .ptr 1 0) (h4:nth fr 4 = .ptr 2 0) (h5:nth fr 5 = .ptr 3 0) :
  ∃ fr' wr',af (CC L5) run k pL ⟨fr,[⟨.live,[.sc (.bool nx),aL a]⟩,⟨.live,[.sc (.bool (!nx)),aL b]⟩,⟨.live,[.sc (.bool nq),aL qq]⟩,⟨.live,[.sc (.bool nr),aL rr]⟩],wr⟩=some (.normal,⟨fr',[⟨.live,[.sc (.bool nx),aL a]⟩,⟨.live,[.sc (.bool (!nx)),aL b]⟩,⟨.live,[.sc (.bool nq2),aL qq2]⟩,⟨.live,[.sc (.bool nr2),aL rr2]⟩],wr'⟩)∧fr'.length=45∧nth fr' 4 = .ptr 2 0∧nth fr' 5 = .ptr 3 0:=by
 have hs2:(s != 0)=true:=by simpa using hs
 have hb1:=acw
 have hb2:=acv
 simp only[pL,divC,Tryz.f151,seq1,cu,ah,j9,Option.getD_some] at hb1 hb2
 cases nx <;> simp only[Bool.not_true,Bool.not_false] at hc7 ⊢ <;> simp[-Nat.testBit_zero,hb1,hb2,pL,divC,Tryz.f151,seq1,ah,h45,h2,h3,h4,h5,af,aH,an,ao,aG,ag,ai,aP,aj,ak,aC,az,FP.none,bc,ar,bd,dz,au,bG,partOf,aa,ae,ab,bf,and_assoc,bg,bO,bx,aX,hc4,hc5,hc6,hc7,hs2,uB,uW,sB,sW,aB,aW,wf0,wf1,aU,aV,bP,bZ,bn,bA,number,FP.free,cB,FP.apart]
set_option maxHeartbeats 4000000 in
theorem DK (L:Lst)(run:aq)(k:Nat)(fr:List PV)(wr:List Nat)(b0 b1:Blk)(nq nr:Bool)(qq rr:List Nat)(h45:fr.length=45)(h4:nth fr 4 = .ptr 2 0)(h5:nth fr 5 = .ptr 3 0) :
  ∃ st,af (CC L) run k (ah 4 divC) ⟨fr,[b0,b1,⟨.live,[.sc (.bool nq),aL qq]⟩,⟨.live,[.sc (.bool nr),aL rr]⟩],wr⟩=some (.ret,st)∧aZ TT st.fr st.hp Tryz.f151.results.toList=some [.agg [.sc (.bool nq),aL qq],.agg [.sc (.bool nr),aL rr]]:=by
 have hb1:=acu
 have hb2:=acs
 simp only[divC,Tryz.f151,seq1,ah,j9,Option.getD_some] at hb1 hb2
 simp[-Nat.testBit_zero,hb1,hb2,divC,Tryz.f151,ah,h45,h4,h5,af,aH,an,ao,aG,ag,ai,aj,ak,aC,az,partOf,aa,ae,ab,bf,bg,bO,bx,aX,sW,aW,aU,aV,bP,bZ,bn,bA,aZ,number,FP.free,cB,FP.apart]
theorem OY (n:Bool):sgn n 0=0:=by cases n <;> rfl
theorem OB {n:Bool}{v:Nat}(h:v≠0):(sgn n v).sign≠0:=by
 intro h'
 have h2:=Int.sign_eq_zero_iff_zero.1 h'
 rw[qv] at h2
 cases n <;> simp at h2 <;> omega
theorem Tp (run:aq)(k:Nat)(x y:Int)(hx:Sm x)(hy:Sm y)(hy0:y.natAbs≠0) :
  ∃ st,af (CC L5) run k divC ⟨entry 45 [bk x,bk y],[],[]⟩=some (.ret,st)∧aZ TT st.fr st.hp Tryz.f151.results.toList=some [bk (lE x y),bk (AX x y)]:=by
 obtain⟨q,rd,hc1,hq1,hq2,hq3,hr1,hr2,hr3⟩:=Ef run false x.natAbs y.natAbs hx.le9 hy.le9 hy0
 have hm:=Nat.mod_lt x.natAbs (show 0<y.natAbs by omega)
 have hc2:=fun dr hp=>pW run dr hp (bq x != bq y) q hq1 hq3
 have hc3:=fun dr hp=>pW run dr hp (bq x) rd hr1 hr3
 rw[hq2] at hc2
 rw[hr2] at hc3
 have hRS:Sm (sgn (bq x) (x.natAbs % y.natAbs)):=hy.of_le (by rw[uw];omega)
 have hQS:Sm (sgn (bq x != bq y) (x.natAbs / y.natAbs)):=hx.of_le (by rw[uw];exact Nat.div_le_self _ _)
 have hc4:=fun dr hp=>Ht run dr hp _ hRS
 have hsg:x.natAbs % y.natAbs≠0→(sgn (bq x) (x.natAbs % y.natAbs)).sign≠0:=fun h=>OB h
 have hsg0:x.natAbs % y.natAbs=0→(sgn (bq x) (x.natAbs % y.natAbs)).sign=0:=fun h=>by rw[h,OY];rfl
 obtain⟨Q,hQ⟩:∃ Q,Q=sgn (bq x != bq y) (x.natAbs / y.natAbs):=⟨_,rfl⟩
 obtain⟨R,hR⟩:∃ R,R=sgn (bq x) (x.natAbs % y.natAbs):=⟨_,rfl⟩
 have hdq:lE x y=bif wH x y then Q - 1 else Q:=by rw[hQ];rfl
 have hdr:AX x y=bif wH x y then R+y else R:=by rw[hR];rfl
 rw[hdq,hdr]
 rw[← hQ] at hc2 hQS
 rw[← hR] at hc3 hc4 hRS hsg hsg0
 simp only[whW,Ab.bC] at hc2 hc3 hc4
 obtain⟨f1,wr1,p1,p2,p3,p4,p5,p6⟩:=YR run k (bq x) (bq y) (bq Q) (bq R) (aA x.natAbs) (aA y.natAbs) q rd (aA Q.natAbs) (aA R.natAbs) hc1 hc2 hc3
 by_cases hd:x.natAbs % y.natAbs≠0∧bq x≠bq y
 ·have hA:wH x y=true:=by
   have h1:(x.natAbs % y.natAbs).beq 0=false:=by
    cases e:x.natAbs % y.natAbs with
    | zero=>exact absurd e hd.1
    | succ n=>rfl
   have h2:(bq x != bq y)=true:=by simpa using hd.2
   simp[wH,h1,h2]
  have hn:bq y = !bq x:=by
   revert hd;cases bq x <;> cases bq y <;> simp
  have hc5:=fun dr hp=>Uh run dr hp
  have hc6:=fun dr hp=>Nq run dr hp Q 1 hQS (show Sm 1 by unfold Sm;decide)
  have hc7:=fun dr hp=>Nr run dr hp R y hRS hy
  rw[hA]
  simp only[cond_true]
  simp only[whW] at hc5 hc6 hc7
  rw[show bq (1:Int)=false from rfl] at hc5 hc6
  rw[hn] at hc7 p1
  obtain⟨f2,wr2,q1,q2,q3,q4⟩:=Tm run k f1 wr1 (bq x) (bq Q) (bq R) (bq (Q - 1)) (bq (R+y)) (aA x.natAbs) (aA y.natAbs) (aA Q.natAbs) (aA R.natAbs) (aA (Q - 1).natAbs) (aA (R+y).natAbs) (aA (1:Int).natAbs) R.sign (hsg hd.1) hc4 hc5 hc6 hc7 p2 p3 p4 p5 p6
  obtain⟨st,e1,e2⟩:=DK L5 run k f2 wr2 ⟨.live,[.sc (.bool (bq x)),aL (aA x.natAbs)]⟩ ⟨.live,[.sc (.bool (!bq x)),aL (aA y.natAbs)]⟩ (bq (Q - 1)) (bq (R+y)) (aA (Q - 1).natAbs) (aA (R+y).natAbs) q2 q3 q4
  refine⟨st,?_,e2⟩
  rw[bk,bk,hn,aO 3 p1,zo,aw q1]
  exact e1
 ·have hA:wH x y=false:=by
   by_cases h0:x.natAbs % y.natAbs=0
   ·simp[wH,h0]
   ·have h2:bq x=bq y:=by
     refine Classical.byContradiction fun h3=>hd ⟨h0,h3⟩
    simp[wH,h2]
  have hne:R.sign=0∨bq x=bq y:=by
   by_cases h0:x.natAbs % y.natAbs=0
   ·exact .inl (hsg0 h0)
   ·exact .inr (Classical.byContradiction fun h3=>hd ⟨h0,h3⟩)
  rw[hA]
  simp only[cond_false]
  obtain⟨f2,wr2,q1,q2,q3,q4⟩:=Tn run k f1 wr1 (bq x) (bq y) (bq Q) (bq R) (aA x.natAbs) (aA y.natAbs) (aA Q.natAbs) (aA R.natAbs) R.sign hne hc4 p2 p3 p4 p5 p6
  obtain⟨st,e1,e2⟩:=DK L5 run k f2 wr2 ⟨.live,[.sc (.bool (bq x)),aL (aA x.natAbs)]⟩ ⟨.live,[.sc (.bool (bq y)),aL (aA y.natAbs)]⟩ (bq Q) (bq R) (aA Q.natAbs) (aA R.natAbs) q2 q3 q4
  refine⟨st,?_,e2⟩
  rw[bk,bk,aO 3 p1,zo,aw q1]
  exact e1
def M4:List PV→Option (List PV)
 | [p,q]=>match fC p,fC q with
  | some x,some y=>bif !(y.natAbs.beq 0) then some [bk (lE x y),bk (AX x y)] else none
  | _,_=>none
 | _=>none
theorem abh (hp:List Blk)(x y:Int):bm (snap hp bh) [bk x,bk y]=some ([bk x,bk y],[]):=rfl
theorem DJ:Ab.Spec base.P 151 M4:=Ab.Spec.bL (C:=CC L5) (cU aeM) fun args rs h=>by
 unfold M4 at h
 split at h
 ·split at h
  ·rename_i x y ex ey
   obtain⟨rfl,hx⟩:=dJ ex
   obtain⟨rfl,hy⟩:=dJ ey
   by_cases hy0:y.natAbs=0
   ·rw[hy0] at h;simp at h
   ·rw[jJ hy0] at h
    simp only[Bool.not_false,cond_true,Option.some.injEq] at h
    subst h
    obtain⟨st,e1,e2⟩:=Tp (runK (CC L5) 1) 1 x y hx hy hy0
    exact⟨2,_,_,_,_,_,aQ EH rfl e1 e2,abh _ _ _,Wk.refl rfl,Wk.refl rfl,trivial⟩
  ·cases h
 ·cases h
end Go.Proofs.YtjdmodeenbdfpaaGreat
