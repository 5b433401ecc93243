/- Contracts of num's integers, part 24 of the proof; each lemma states its own conditions. -/
import Derived.Test.YtjdmodeenbdfpaaGreatQ23
import Derived.Test.YtjdmodeenbdfpaaGreatQ20
set_option linter.unusedSimpArgs false
set_option linter.unusedVariables false
namespace Go.Proofs.YtjdmodeenbdfpaaGreat
open Go Go.Ab
theorem Nh:Ab.Spec base.P 182 DF:=Ab.Spec.bN (C:=CC LK) (cU afK) fun args rs h=>by
 unfold DF at h
 split at h
 ·split at h
  ·rename_i a b ea eb
   obtain⟨rfl,ha,hla⟩:=dp ea
   obtain⟨rfl,hb,hlb⟩:=dp eb
   cases hc:tw b && Nat.ble 2 b.length && Nat.ble b.length a.length && Nat.ble a.length 900000 with
   | false=>rw[hc] at h;cases h
   | true =>
    rw[hc] at h
    simp only[cond_true,Option.some.injEq] at h
    subst h
    simp only[Bool.and_eq_true,Nat.ble_eq] at hc
    obtain⟨⟨⟨hc1,hc2⟩,hc3⟩,hc4⟩:=hc
    have hT:=mg hc1
    obtain⟨mm,hmm⟩:∃ mm,b.length=mm+2:=⟨b.length - 2,by omega⟩
    obtain⟨k,hk⟩:∃ k,k=1000000000 / (at0 b (mm+1)+1):=⟨_,rfl⟩
    obtain⟨s1,s2,s3,s4,s5,s6⟩:=Lk hb hT hmm hk
    have hblt:val a*k<1000000000 ^ (a.length+1):=by
     rw[Nat.pow_succ]
     exact Nat.lt_of_lt_of_le (Nat.mul_lt_mul_of_pos_right (eM ha) s1) (Nat.mul_le_mul_left _ (by omega))
    have hVlt:val b*k<1000000000 ^ (b.length+1):=by
     rw[Nat.pow_succ]
     exact Nat.lt_of_lt_of_le (Nat.mul_lt_mul_of_pos_right (eM hb) s1) (Nat.mul_le_mul_left _ (by omega))
    have hb0:0<val b:=by
     rcases Nat.eq_zero_or_pos (val b) with h | h
     ·rw[h] at s3
      have:0<1000000000 ^ (mm+1+1):=Nat.pow_pos (by omega)
      omega
     ·exact h
    obtain⟨f0,wr0,p1,p2,p3,p4⟩:=M3 LK (runK (CC LK) (a.length+3)) (a.length+3) (aL a) (aL b)
    obtain⟨f1,wr1,q1,q2,q3,q4,q5⟩:=M0 LK (runK (CC LK) (a.length+3)) (a.length+3) f0 wr0 a b (mm+1) _ _ k hb hlb hmm rfl rfl hk p2 p3 p4
    have hc1':=qm (a.length+2) false [] a k ha s2 hla (by omega)
    have hc2':=qm (a.length+2) false [⟨.live,(cX (a.length+1) (val a*k)).map dg⟩] b k hb s2 hlb (by omega)
    have hc3':=HP (runK (CC LK) (a.length+3)) false [⟨.live,(cX (a.length+1) (val a*k)).map dg⟩,⟨.live,(cX (b.length+1) (val b*k)).map dg⟩] 1 (b.length+1) (cX (b.length+1) (val b*k)) (gu _ _) (di _ _) (by omega) rfl
    rw[fh _ _ hVlt] at hc3'
    obtain⟨f2,wr2,r1,r2,r3,r4,r5⟩:=MZ (runK (CC LK) (a.length+3)) (a.length+3) f1 wr1 a b (aA (val b*k)) _ _ k _ _ _ _ _ q2 q3 q4 q5 hc1' hc2' hc3'
    have hvl:(aA (val b*k)).length=b.length:=by rw[s5,hmm]
    obtain⟨f3,wr3,t1,t2,t3,t4,t5,t6,t7⟩:=MY LK (runK (CC LK) (a.length+3)) (a.length+3) f2 wr2 (cX (a.length+1) (val a*k)) (cX (b.length+1) (val b*k)) (aA (val b*k)) (dg k) (a.length+1) (a.length+1 - b.length) (by omega) (by omega) r2 r3 r4 r5
    obtain⟨f4,w1,w2⟩:=YG LK (runK (CC LK) (a.length+3)) (a.length+3) f3 (hpL ⟨.ro,(cX (b.length+1) (val b*k)).map dg⟩ (cX (a.length+1) (val a*k)) (List.replicate (a.length+1 - b.length) 0)) wr3 (aA (val b*k)) (dg k) (a.length+1) (a.length+1 - b.length) b.length (by omega) (by omega) hvl t2 t3 t4 t5 t6 t7
    have hLI:=LI.init (a:=val a) (b:=val b) (k:=k) (n:=b.length) (la:=a.length) (u:=cX (a.length+1) (val a*k)) (by rw[fh _ _ hblt,Nat.mul_comm]) (gu _ _) (di _ _) (eM ha) (by rw[hmm];exact s3) s1 (by omega)
    have hvv:val (aA (val b*k))=k*val b:=by rw[bQ,Nat.mul_comm]
    rw[← hvv] at hLI
    obtain⟨f5,wr5,u,q,x1,x2,x3,x4⟩:=zk LK (runK (CC LK) (a.length+3)) (a.length+3) ⟨.ro,(cX (b.length+1) (val b*k)).map dg⟩ _ (a.length+1) (a.length+1 - b.length) b.length mm (dg k) (aA (val b*k)) (bP _) hvl hmm (by omega) (by omega) (by omega) s6 (a.length+1 - b.length) f4 wr3 _ _ hLI (by omega) (by simp) w2
    rw[hvv] at x2
    obtain⟨y1,y2⟩:=x2.done s1 hb0
    have hul:=x2.ul
    have hmod:=Nat.mod_lt (val a) hb0
    have hsm:val u<1000000000 ^ b.length:=by
     rw[y2,hmm]
     refine Nat.lt_trans ?_ s4
     rw[Nat.mul_comm]
     exact Nat.mul_lt_mul_of_pos_right hmod s1
    have htk:=uk hsm
    have hc4':=EC (runK (CC LK) (a.length+3)) false (hpL ⟨.ro,(cX (b.length+1) (val b*k)).map dg⟩ u q) 0 b.length k u x2.uok (by omega) (by omega) s1 s2 rfl
    rw[htk,y2,Nat.mul_div_cancel_left _ s1] at hc4'
    obtain⟨st,e1,e2,e3⟩:=M4 (runK (CC LK) (a.length+3)) (a.length+3) f5 wr5 u q _ k (a.length+1) (a.length+1 - b.length) b.length 0 _ _ _ _ (by omega) x4 hc4'
    have hx:af (CC LK) (runK (CC LK) (a.length+3)) (a.length+3) gS ⟨entry 239 [aL a,aL b],[],[]⟩=some (.ret,st):=by
     rw[aM 1 p1,aM 1 q1,show ah 1 (ah 1 gS)=ah 2 gS from rfl,aM 1 r1,show ah 1 (ah 2 gS)=ah 3 gS from rfl,aM 2 t1,show ah 2 (ah 3 gS)=ah 5 gS from rfl,Na,
      aw ((aw w1).trans (bF (bT x1 (by omega))))]
     exact e1
    have hq:q=cX (a.length+1 - b.length) (val a / val b):=x2.qok.oL (by have:=x2.ql;omega) y1
    have hs:=uA (hp:=[⟨.ro,u.map dg⟩,⟨.ro,(cX (b.length+1) (val b*k)).map dg⟩,⟨.live,q.map dg⟩]) (id:=2) (l:=q) rfl (a.length+1 - b.length) true (by omega) 10
    rw[List.take_of_length_le (by omega)] at hs
    refine⟨a.length+4,_,_,_,[.imm (a.length+1 - b.length) true (q.map dg),aL (cX b.length (val a % val b))],[2],aQ Od rfl hx e2,?_,?_,Wk.refl rfl,trivial⟩
    ·rw[e3]
     show bq (Ab.snap _ 12) _=_
     simp only[bq,hs]
     rfl
    ·rw[← hq]
     have:=Wk.imm (a.length+1 - b.length) true (q.map dg)
     rw[aL,x3]
     exact this
  ·cases h
 ·cases h
def zS (p:PV):Option Nat:=match gU p with
 | some l=>bif tw l then some (val l) else none
 | none=>none
theorem xc {p:PV}{n:Nat}(h:zS p=some n):p=aL (aA n)∧(aA n).length<1000000:=by
 unfold zS at h
 split at h
 ·rename_i l e
  obtain⟨h1,h2,h3⟩:=dp e
  cases ht:tw l with
  | false=>rw[ht] at h;cases h
  | true =>
   rw[ht] at h
   simp at h;subst h
   rw[jN h2 (mg ht)]
   exact⟨h1,h3⟩
 ·cases h
theorem k9 {n:Nat}(h:(aA n).length<1000000):zS (aL (aA n))=some n:=by
 simp[zS,cS (bP n) h,pe (ja n),bQ]
noncomputable def L3:Lst:=[(167,jn),(146,pn),(181,lr),(182,DF)]
theorem afO:dM base.P L3:=⟨jB,qM,ov,Nh,trivial⟩
theorem Ye:bu L3 146=fun a=>pn (aJ a):=rfl
theorem Se:bu L3 181=fun a=>lr (aJ a):=rfl
theorem Yf:bu L3 182=fun a=>DF (aJ a):=rfl
theorem qa {y:Nat}(h:1000000000≤y):2≤(aA y).length:=by
 rcases Nat.lt_or_ge (aA y).length 2 with h2 | h2
 ·have h3:=fy y
  have h4:(1000000000:Nat) ^ (aA y).length≤1000000000 ^ 1:=Nat.pow_le_pow_right (by omega) (by omega)
  omega
 ·exact h2
theorem HU (run:aq)(dr:Bool)(hp:List Blk)(x y:Nat)(hx:(aA x).length≤900000)(hy:1000000000≤y)(hxy:y≤x) :
  cb (CC L3) run dr hp 182 [aL (aA x),aL (aA y)]=some (.tup [aL (cX ((aA x).length+1 - (aA y).length) (x / y)),aL (cX (aA y).length (x % y))],hp,⟨[],[],false,false⟩):=by
 have h1:=qa hy
 have h2:=cw hxy
 have h3:Nat.ble 2 (aA y).length=true:=Nat.ble_eq ▸ h1
 have h4:Nat.ble (aA y).length (aA x).length=true:=Nat.ble_eq ▸ h2
 have h5:Nat.ble (aA x).length 900000=true:=Nat.ble_eq ▸ hx
 exact bp Wt Yf run dr hp _ [aL (cX ((aA x).length+1 - (aA y).length) (x / y)),aL (cX (aA y).length (x % y))] (lW hp _ _) (jR _ _)
  (by simp only[DF,cS (bP x) (show (aA x).length<1000000 by omega),cS (bP y) (show (aA y).length<1000000 by omega),pe (ja y),h3,h4,h5,Bool.and_self,cond_true,bQ])
theorem oV (run:aq)(dr:Bool)(hp:List Blk)(x y:Nat)(hx:(aA x).length<1000000)(hy:(aA y).length<1000000) :
  cb (CC L3) run dr hp 146 [aL (aA x),aL (aA y)]=some (Ab.bC (dL x y),hp,⟨[],[],false,false⟩) :=
 bp I2 Ye run dr hp _ [Ab.bC (dL x y)] (lW hp _ _) (jR _ _) (by simp only[pn,cS (bP _) hx,cS (bP _) hy,lp])
theorem EG (run:aq)(dr:Bool)(hp:List Blk)(x b:Nat)(hx:(aA x).length<1000000)(hb:0<b)(hb2:b<1000000000) :
  cb (CC L3) run dr hp 181 [aL (aA x),dg b]=some (.tup [aL (cX (aA x).length (x / b)),dg (x % b)],hp,⟨[],[],false,false⟩):=by
 obtain⟨b,rfl⟩:∃ c,b=c+1:=⟨b - 1,by omega⟩
 exact bp Cb Se run dr hp [aL (aA x),dg (b+1)] [aL (cX (aA x).length (x / (b+1))),dg (x % (b+1))] rfl (by simp only[aJ,fE];rfl) (by simp only[lr,cS (bP _) hx,Ue hb2,bQ])
theorem HT (run:aq)(dr:Bool)(hp:List Blk)(r:Nat)(hr:r<1000000000) :
  cb (CC L3) run dr hp 167 [.imm 1 true [dg r]]=some (aL (aA r),hp,⟨[],[],false,false⟩):=by
 have h3:(CC L3).orc 167 [.imm 1 true [dg r]]=some [aL (aA r)]:=by
  show jn (aJ [.imm 1 true [dg r]])=_
  have h1:aJ [.imm 1 true [dg r]]=[aL [r]]:=rfl
  have h2:Dok [r]:=Dok.nil.cons hr
  rw[h1]
  simp only[jn,cS h2 (by simp),eC h2]
  simp[val]
 have h4:bq (snap hp bj) [.imm 1 true [dg r]]=some ([.imm 1 true [dg r]],[]):=rfl
 exact ee tI h4 h3 rfl
noncomputable def rA:Code:=Tryz.f166.body.getD .skip
theorem Dc (run:aq)(k:Nat)(x y:Nat)(hx:(aA x).length<1000000)(hy:(aA y).length<1000000)(hxy:x<y) :
  ∃ st,af (CC L3) run k rA ⟨entry 35 [aL (aA x),aL (aA y)],[],[]⟩=some (.ret,st)∧aV TT st.fr st.hp Tryz.f166.results.toList=some [.sc (.slice none 0 0),aL (aA x)]:=by
 have hc:=fun hp dr=>oV run dr hp x y hx hy
 rw[dL,if_pos hxy] at hc
 simp only[Ab.bC] at hc
 obtain⟨e1,e2,e3⟩:=cn 33 (aL (aA x)) (aL (aA y))
 generalize entry 35 [aL (aA x),aL (aA y)]=fr0 at *
 generalize aA x=a at *
 generalize aA y=b at *
 simp[rA,Tryz.f166,af,aH,an,ao,aG,ag,ai,aO,aj,ak,aC,az,FP.none,aY,au,bf,av,aa,ae,ab,e1,e2,e3,hc,aV]
theorem mU {y:Nat}(h:0<y)(h2:y<1000000000):aA y=[y]:=by
 rw[dT (by omega),Nat.mod_eq_of_lt h2,Nat.div_eq_of_lt h2,fj]
set_option maxHeartbeats 1000000 in
theorem Db (run:aq)(k:Nat)(x y:Nat)(hx:(aA x).length<1000000)(hy0:0<y)(hy:y<1000000000)(hxy:y≤x) :
  ∃ st,af (CC L3) run k rA ⟨entry 35 [aL (aA x),aL (aA y)],[],[]⟩=some (.ret,st)∧aV TT st.fr st.hp Tryz.f166.results.toList=some [aL (cX (aA x).length (x / y)),aL (aA (x % y))]:=by
 have hly:(aA y).length<1000000:=by rw[mU hy0 hy];simp
 have hc:=fun hp dr=>oV run dr hp x y hx hly
 have hcz : ¬ (dL x y<0):=by
  unfold dL
  rw[if_neg (by omega)]
  by_cases h:x=y
  ·rw[if_pos h];omega
  ·rw[if_neg h];omega
 have hc2:=fun hp dr=>EG run dr hp x y hx hy0 hy
 have hc3:=fun hp dr=>HT run dr hp (x % y) (Nat.lt_trans (Nat.mod_lt _ hy0) hy)
 rw[mU hy0 hy] at hc ⊢
 simp only[Ab.bC] at hc
 obtain⟨e1,e2,e3⟩:=cn 33 (aL (aA x)) (aL [y])
 generalize entry 35 [aL (aA x),aL [y]]=fr0 at *
 generalize aA (x % y)=rr at *
 generalize cX (aA x).length (x / y)=qq at *
 generalize aA x=a at *
 generalize dL x y=cc at *
 generalize x % y=r at *
 have e4:aL [y] = .imm 1 false [dg y]:=rfl
 rw[e4] at hc e3
 simp[rA,Tryz.f166,af,aH,an,ao,aG,ag,ai,aO,aj,ak,aC,az,FP.none,aY,au,bf,av,bK,bg,jx,partOf,aa,ae,ab,bh,cN,e1,e2,e3,hc,hc2,hc3,hcz,uD,s32,a32,aU,br,mM,jk,aV]
set_option maxHeartbeats 1000000 in
theorem Da (run:aq)(k:Nat)(x y:Nat)(hx:(aA x).length≤900000)(hy:1000000000≤y)(hxy:y≤x) :
  ∃ st,af (CC L3) run k rA ⟨entry 35 [aL (aA x),aL (aA y)],[],[]⟩=some (.ret,st)∧aV TT st.fr st.hp Tryz.f166.results.toList=some [aL (cX ((aA x).length+1 - (aA y).length) (x / y)),aL (cX (aA y).length (x % y))]:=by
 have hly:(aA y).length<1000000:=Nat.lt_of_le_of_lt (cw hxy) (by omega)
 have hc:=fun hp dr=>oV run dr hp x y (by omega) hly
 have hcz : ¬ (dL x y<0):=by
  unfold dL
  rw[if_neg (by omega)]
  by_cases h:x=y
  ·rw[if_pos h];omega
  ·rw[if_neg h];omega
 have hc2:=fun hp dr=>HU run dr hp x y hx hy hxy
 have hl1:(((aA y).length:Int) == 1)=false:=by rw[beq_eq_false_iff_ne];have:=qa hy;omega
 simp only[Ab.bC] at hc
 obtain⟨e1,e2,e3⟩:=cn 33 (aL (aA x)) (aL (aA y))
 generalize entry 35 [aL (aA x),aL (aA y)]=fr0 at *
 generalize cX ((aA x).length+1 - (aA y).length) (x / y)=qq at *
 generalize cX (aA y).length (x % y)=rr at *
 generalize aA x=a at *
 generalize aA y=b at *
 generalize dL x y=cc at *
 simp[rA,Tryz.f166,af,aH,an,ao,aG,ag,ai,aO,aj,ak,aC,az,FP.none,aY,au,bf,av,bK,aa,ae,ab,bh,cg,e1,e2,e3,hc,hc2,hcz,hl1,uD,aV]
def jJ:List PV→Option (List PV)
 | [p,q]=>match zS p,zS q with
  | some x,some y=>bif x.blt y then some [aL [],aL (aA x)] else bif y.blt 1000000000 then (bif y.beq 0 then none else some [aL (cX (aA x).length (x / y)),aL (aA (x % y))]) else
    bif (aA x).length.ble 900000 then some [aL (cX ((aA x).length+1 - (aA y).length) (x / y)),aL (cX (aA y).length (x % y))] else none
  | _,_=>none
 | _=>none
theorem lh {x y:Nat}(h : ¬ x<y):x.blt y=false:=by
 cases e:x.blt y with
 | false=>rfl
 | true=>rw[Nat.blt_eq] at e;exact absurd e h
theorem jT {y:Nat}(h:y≠0):y.beq 0=false:=by
 cases y with
 | zero=>exact absurd rfl h
 | succ y=>rfl
theorem oH:Ab.Spec base.P 166 jJ:=Ab.Spec.bN (C:=CC L3) (cU afO) fun args rs h=>by
 unfold jJ at h
 split at h
 ·split at h
  ·rename_i x y ex ey
   obtain⟨rfl,hx⟩:=xc ex
   obtain⟨rfl,hy⟩:=xc ey
   by_cases hb:x<y
   ·have hb':x.blt y=true:=by rw[Nat.blt_eq];exact hb
    rw[hb'] at h
    simp only[cond_true,Option.some.injEq] at h
    subst h
    obtain⟨st,e1,e2⟩:=Dc (runK (CC L3) 1) 1 x y hx hy hb
    exact⟨2,_,_,_,[.sc (.slice none 0 0),aL (aA x)],[],aQ oX rfl e1 e2,rfl,Wk.nil false,Wk.refl rfl,trivial⟩
   ·rw[lh hb] at h
    by_cases hc:y<1000000000
    ·have hc':y.blt 1000000000=true:=by rw[Nat.blt_eq];exact hc
     rw[hc'] at h
     by_cases hy0:y=0
     ·subst hy0
      simp at h
     ·rw[jT hy0] at h
      simp only[cond_true,cond_false,Option.some.injEq] at h
      subst h
      obtain⟨st,e1,e2⟩:=Db (runK (CC L3) 1) 1 x y hx (by omega) hc (by omega)
      exact⟨2,_,_,_,_,_,aQ oX rfl e1 e2,rfl,Wk.refl rfl,Wk.refl rfl,trivial⟩
    ·rw[lh hc] at h
     cases hd:(aA x).length.ble 900000 with
     | false=>rw[hd] at h;simp at h
     | true =>
      rw[hd] at h
      simp only[cond_true,cond_false,Option.some.injEq] at h
      subst h
      obtain⟨st,e1,e2⟩:=Da (runK (CC L3) 1) 1 x y (by rw[Nat.ble_eq] at hd;exact hd) (by omega) (by omega)
      exact⟨2,_,_,_,_,_,aQ oX rfl e1 e2,rfl,Wk.refl rfl,Wk.refl rfl,trivial⟩
  ·cases h
 ·cases h
theorem vO (x y:Nat)(hx:(aA x).length≤900000)(hy:(aA y).length≤900000)(hy0:y≠0) :
  ∃ q r,jJ [aL (aA x),aL (aA y)]=some [aL q,aL r]∧Dok q∧val q=x / y∧q.length<1000000∧Dok r∧val r=x % y∧r.length<1000000:=by
 have hx':(aA x).length<1000000:=by omega
 have hy':(aA y).length<1000000:=by omega
 have hm:=Nat.mod_lt x (show 0<y by omega)
 have hml:(aA (x % y)).length<1000000:=Nat.lt_of_le_of_lt (cw (Nat.le_of_lt hm)) hy'
 by_cases hb:x<y
 ·have hb':x.blt y=true:=by rw[Nat.blt_eq];exact hb
  exact⟨[],aA x,by simp only[jJ,k9 hx',k9 hy',hb',cond_true],Dok.nil,by rw[Nat.div_eq_of_lt hb];rfl,by simp,bP _,by rw[bQ,Nat.mod_eq_of_lt hb],hx'⟩
 ·by_cases hc:y<1000000000
  ·have hc':y.blt 1000000000=true:=by rw[Nat.blt_eq];exact hc
   exact⟨_,_,by simp only[jJ,k9 hx',k9 hy',lh hb,hc',jT hy0,cond_true,cond_false],gu _ _,fh _ _ (Nat.lt_of_le_of_lt (Nat.div_le_self x y) (fy x)),by rw[di];exact hx',bP _,bQ _,hml⟩
  ·have hd:(aA x).length.ble 900000=true:=by rw[Nat.ble_eq];exact hx
   have h2:=qa (show 1000000000≤y by omega)
   have hle:=cw (show y≤x by omega)
   refine⟨cX ((aA x).length+1 - (aA y).length) (x / y),cX (aA y).length (x % y),by simp only[jJ,k9 hx',k9 hy',lh hb,lh hc,hd,cond_true,cond_false],gu _ _,fh _ _ ?_,by rw[di];omega,gu _ _,fh _ _ (Nat.lt_trans hm (fy y)),by rw[di];exact hy'⟩
   have h3:=fy x
   have h4:1000000000 ^ ((aA y).length - 1)≤y:=by
    rcases Nat.lt_or_ge y (1000000000 ^ ((aA y).length - 1)) with h | h
    ·have:=da h;omega
    ·exact h
   refine Nat.div_lt_of_lt_mul ?_
   refine Nat.lt_of_lt_of_le h3 (Nat.le_trans ?_ (Nat.mul_le_mul_right _ h4))
   rw[← Nat.pow_add]
   exact Nat.pow_le_pow_right (by omega) (by omega)
noncomputable def L4:Lst:=[(167,jn),(166,jJ),(165,ya),(164,uH),(97,ofF)]
theorem afN:dM base.P L4:=⟨jB,oH,x8,uF,nI,trivial⟩
theorem Yd:bu L4 167=fun a=>jn (aJ a):=rfl
theorem Sd:bu L4 166=fun a=>jJ (aJ a):=rfl
theorem Yc:bu L4 165=fun a=>ya (aJ a):=rfl
theorem Sc:bu L4 164=fun a=>uH (aJ a):=rfl
theorem aeW:bu L4 97=fun a=>ofF (aJ a):=rfl
theorem HS (run:aq)(dr:Bool)(hp:List Blk)(r:List Nat)(hd:Dok r)(hr:r.length<1000000) :
  cb (CC L4) run dr hp 167 [aL r]=some (aL (aA (val r)),hp,⟨[],[],false,false⟩) :=
 bp tI Yd run dr hp _ [aL (aA (val r))] rfl (by simp only[aJ,fE]) (by simp only[jn,cS hd hr,eC hd])
theorem EF (run:aq)(dr:Bool)(hp:List Blk)(x y:Nat)(hx:(aA x).length≤900000)(hy:(aA y).length≤900000)(hy0:y≠0) :
  ∃ q r,cb (CC L4) run dr hp 166 [aL (aA x),aL (aA y)]=some (.tup [aL q,aL r],hp,⟨[],[],false,false⟩)∧Dok r∧val r=x % y∧r.length<1000000:=by
 obtain⟨q,r,h1,h2,h3,h4,h5,h6,h7⟩:=vO x y hx hy hy0
 exact⟨q,r,bp Ck Sd run dr hp [aL (aA x),aL (aA y)] [aL q,aL r] (lW hp _ _) (jR _ _) h1,h5,h6,h7⟩
theorem xm (run:aq)(dr:Bool)(hp:List Blk)(x:Nat)(hx:(aA x).length≤2) :
  cb (CC L4) run dr hp 165 [aL (aA x)]=some (Ab.bC (Int.ofNat x),hp,⟨[],[],false,false⟩) :=
 bp Wm Yc run dr hp _ [Ab.bC (Int.ofNat x)] rfl (by simp only[aJ,fE]) (by
  have:(aA x).length.ble 2=true:=by rw[Nat.ble_eq];exact hx
  simp only[ya,cS (bP x) (show (aA x).length<1000000 by omega),this,cond_true,bQ])
theorem EE (run:aq)(dr:Bool)(hp:List Blk)(x y:Nat) :
  cb (CC L4) run dr hp 164 [.sc (.int .i64 (x:Int)),.sc (.int .i64 (y:Int))]=some (.sc (.int .i64 ((Nat.gcd x y:Nat):Int)),hp,⟨[],[],false,false⟩) :=
 bp O3 Sc run dr hp _ [Ab.bC (Int.ofNat (Nat.gcd x y))] rfl rfl rfl
theorem UW (run:aq)(dr:Bool)(hp:List Blk)(x:Nat)(hx:x<9223372036854775808) :
  cb (CC L4) run dr hp 97 [.sc (.int .i64 (x:Int))]=some (bn (Int.ofNat x),hp,⟨[],[],false,false⟩) :=
 bp yr aeW run dr hp _ [bn (Int.ofNat x)] rfl rfl (by
  have h1:decide (-9223372036854775808≤(x:Int))=true:=decide_eq_true (by omega)
  have h2:decide ((x:Int)<9223372036854775808)=true:=decide_eq_true (by omega)
  simp only[ofF,h1,h2,Bool.and_self,cond_true];rfl)
theorem Sm.le9 {z:Int}(h:Sm z):(aA z.natAbs).length≤900000:=Nat.le_of_lt (Nat.lt_trans h (by decide))
noncomputable def DU:Code:=Tryz.f150.body.getD .skip
noncomputable def xN:Code:=((Tryz.f150.body).bind aF).getD .skip
abbrev zW2:Blk:=⟨.live,[.sc (.bool false),.sc (.slice none 0 0)]⟩
theorem Y8 (L:Lst)(run:aq)(k:Nat)(fr:List PV)(hp:List Blk)(wr:List Nat)(h41:fr.length=41)(h6:nth fr 6=aL []) :
  ∃ fr',af (CC L) run k xN ⟨fr,hp,wr⟩=some (.exit 0,⟨fr',hp,wr⟩)∧fr'.length=41∧nth fr' 4=nth fr 4∧nth fr' 5=nth fr 5:=by
 simp[xN,Tryz.f150,aF,af,aH,an,ao,aG,ag,ai,aj,ak,aC,az,FP.none,aY,au,bf,av,bK,aa,ae,ab,bh,cg,h41,h6,uD]
set_option maxHeartbeats 1000000 in
theorem Nn (run:aq)(k:Nat)(fr:List PV)(hp:List Blk)(wr:List Nat)(x y:Nat)(hx:(aA x).length≤900000)(hy:(aA y).length≤900000)(hy0:y≠0)(hns : ¬ ((aA x).length≤2∧(aA y).length≤2))
  (h41:fr.length=41) (h5:nth fr 5=aL (aA x)) (h6:nth fr 6=aL (aA y)) :
  ∃ fr',af (CC L4) run k xN ⟨fr,hp,wr⟩=some (.normal,⟨fr',hp,wr⟩)∧fr'.length=41∧nth fr' 4=nth fr 4∧nth fr' 5=aL (aA y)∧nth fr' 6=aL (aA (x % y)):=by
 obtain⟨q,rr,hc,hr1,hr2,hr3⟩:=EF run false hp x y hx hy hy0
 have hc2:=fun dr=>HS run dr hp rr hr1 hr3
 rw[hr2] at hc2
 have hp0:=(cP (n:=y)).2 hy0
 have hne:aA y≠[]:=by intro e;rw[e] at hp0;simp at hp0
 generalize aA (x % y)=r at *
 generalize aA x=a at *
 generalize aA y=b at *
 by_cases h2:a.length≤2
 ·have h3 : ¬ (b.length≤2):=fun h=>hns ⟨h2,h⟩
  simp[xN,Tryz.f150,aF,af,aH,an,ao,aG,ag,ai,aO,aj,ak,aC,az,FP.none,aY,au,bf,av,bK,aa,ae,ab,bh,cg,acN,h41,h5,h6,uD,hp0,h2,h3,hc,hc2]
 ·simp[xN,Tryz.f150,aF,af,aH,an,ao,aG,ag,ai,aO,aj,ak,aC,az,FP.none,aY,au,bf,av,bK,aa,ae,ab,bh,cg,acN,h41,h5,h6,uD,hp0,h2,hc,hc2]
set_option maxHeartbeats 1000000 in
theorem Y5 (run:aq)(k:Nat)(fr:List PV)(b0 b1:Blk)(wr:List Nat)(x y:Nat)(hx:(aA x).length≤2)(hy:(aA y).length≤2)(hy0:y≠0)(h41:fr.length=41)(h4:nth fr 4 = .ptr 2 0)(h5:nth fr 5=aL (aA x))(h6:nth fr 6=aL (aA y)) :
  ∃ fr' wr',af (CC L4) run k xN ⟨fr,[b0,b1,zW2],wr⟩=some (.ret,⟨fr',[b0,b1,⟨.live,[.sc (.bool false),aL (aA (Nat.gcd x y))]⟩],wr'⟩)∧nth fr' 4 = .ptr 2 0:=by
 have hc1:=fun dr=>xm run dr [b0,b1,zW2] x hx
 have hc2:=fun dr=>xm run dr [b0,b1,zW2] y hy
 have hc3:=fun dr=>EE run dr [b0,b1,zW2] x y
 have hg:Nat.gcd x y<9223372036854775808:=by
  have h1:=fy y
  have h2:=Nat.pow_le_pow_right (n:=1000000000) (by omega) hy
  have h3:=Nat.gcd_le_right x (show 0<y by omega)
  have h4:1000000000 ^ 2<9223372036854775808:=by decide
  omega
 have hc4:=fun dr=>UW run dr [b0,b1,zW2] (Nat.gcd x y) hg
 simp only[Ab.bC,Int.ofNat_eq_natCast] at hc1 hc2
 rw[show bn (Int.ofNat (Nat.gcd x y)) = .agg [.sc (.bool false),aL (aA (Nat.gcd x y))] from rfl] at hc4
 have hp0:=(cP (n:=y)).2 hy0
 have hne:aA y≠[]:=by intro e;rw[e] at hp0;simp at hp0
 generalize aA (Nat.gcd x y)=g at *
 generalize Nat.gcd x y=gg at *
 generalize aA x=a at *
 generalize aA y=b at *
 simp[xN,Tryz.f150,aF,af,aH,an,ao,aG,ag,ai,aO,aj,ak,aC,az,FP.none,aY,au,bf,av,bK,aa,ae,ab,bh,and_assoc,cg,bm,bS,bD,bc,acN,h41,h4,h5,h6,uD,hp0,hx,hy,hc1,hc2,hc3,hc4,aZ,cf,bX,sW]
theorem DT (run:aq)(k:Nat)(b0 b1:Blk) :
  ∀ (n y x:Nat) (fr:List PV) (wr:List Nat),y<n→(aA x).length≤900000→(aA y).length≤900000→fr.length=41→nth fr 4 = .ptr 2 0→nth fr 5=aL (aA x)→nth fr 6=aL (aA y) →
  (∃ fr' wr',ca (af (CC L4) run k xN) n ⟨fr,[b0,b1,zW2],wr⟩=some (.exit 0,⟨fr',[b0,b1,zW2],wr'⟩)∧fr'.length=41∧nth fr' 4 = .ptr 2 0∧nth fr' 5=aL (aA (Nat.gcd x y))) ∨
  (∃ fr' wr',ca (af (CC L4) run k xN) n ⟨fr,[b0,b1,zW2],wr⟩=some (.ret,⟨fr',[b0,b1,⟨.live,[.sc (.bool false),aL (aA (Nat.gcd x y))]⟩],wr'⟩)∧nth fr' 4 = .ptr 2 0)
 | 0,y,x,fr,wr,hn,_,_,_,_,_,_=>by omega
 | n+1,y,x,fr,wr,hn,hx,hy,h41,h4,h5,h6=>by
  by_cases hy0:y=0
  ·subst hy0
   obtain⟨fr',g1,g2,g3,g4⟩:=Y8 L4 run k fr [b0,b1,zW2] wr h41 h6
   exact .inl ⟨fr',wr,bz g1,g2,by rw[g3,h4],by rw[g4,h5,Nat.gcd_zero_right]⟩
  ·by_cases hs:(aA x).length≤2∧(aA y).length≤2
   ·obtain⟨fr',wr',g1,g2⟩:=Y5 run k fr b0 b1 wr x y hs.1 hs.2 hy0 h41 h4 h5 h6
    exact .inr ⟨fr',wr',eH g1,g2⟩
   ·obtain⟨fr1,g1,g2,g3,g4,g5⟩:=Nn run k fr [b0,b1,zW2] wr x y hx hy hy0 hs h41 h5 h6
    have hm:=Nat.mod_lt x (show 0<y by omega)
    have:=DT run k b0 b1 n (x % y) y fr1 wr (by omega) hy (Nat.le_trans (cw (Nat.le_of_lt hm)) hy) g2 (by rw[g3,h4]) g4 g5
    rw[bU g1]
    rw[Nat.gcd_comm y (x % y),← Nat.gcd_rec,Nat.gcd_comm y x] at this
    exact this
theorem zA:ah 2 DU = .seq (.block 0 (.loop xN)) (ah 3 DU):=rfl
theorem Y7 (L:Lst)(run:aq)(k:Nat)(na nb:Bool)(a b:List Nat) :
  ∃ fr wr,aX (CC L) run k 2 DU ⟨entry 41 [wh na a,wh nb b],[],[]⟩=some ⟨fr,[⟨.live,[.sc (.bool na),aL a]⟩,⟨.live,[.sc (.bool nb),aL b]⟩,zW2],wr⟩∧fr.length=41∧nth fr 4 = .ptr 2 0∧nth fr 5=aL a∧nth fr 6=aL b:=by
 obtain⟨e1,e2,e3⟩:=cn 39 (wh na a) (wh nb b)
 generalize entry 41 [wh na a,wh nb b]=fr0 at *
 have e4:∀ n l,wh n l = .agg [.sc (.bool n),aL l]:=fun _ _=>rfl
 rw[e4] at e2 e3
 simp[DU,Tryz.f150,aX,e1,e2,e3,af,aH,an,ao,aG,ag,ai,aj,ak,aC,az,FP.none,bL,partOf,aa,ae,ab,bh,and_assoc,bm,uW,sD,zW,aD,wf0,wf1,aP,aU,aZ,br,number,FP.free,cH,FP.apart]
theorem Tw (L:Lst)(run:aq)(k:Nat)(fr:List PV)(b0 b1:Blk)(wr:List Nat)(a:List Nat)(h41:fr.length=41)(h4:nth fr 4 = .ptr 2 0)(h5:nth fr 5=aL a) :
  ∃ st,af (CC L) run k (ah 3 DU) ⟨fr,[b0,b1,zW2],wr⟩=some (.ret,st)∧aV TT st.fr st.hp Tryz.f150.results.toList=some [.agg [.sc (.bool false),aL a]]:=by
 simp[DU,Tryz.f150,ah,af,aH,an,ao,aG,ag,ai,aj,ak,aC,az,FP.none,av,partOf,aa,ae,ab,bh,xf,bm,jQ,bS,bD,bc,h41,h4,h5,eJ,zW,uW,wf0,wf1,sB,sD,sW,aW,dn,jI,bX,aV,aU,aZ,cf,br,bE]
theorem Y6 (fr:List PV)(b0 b1:Blk)(a:List Nat)(h4:nth fr 4 = .ptr 2 0):aV TT fr [b0,b1,⟨.live,[.sc (.bool false),aL a]⟩] Tryz.f150.results.toList=some [.agg [.sc (.bool false),aL a]]:=by
 simp[Tryz.f150,aV,h4,aU,aZ,br,partOf,aW,sW,bE]
def xM:List PV→Option (List PV)
 | [p,q]=>match fL p,fL q with
  | some x,some y=>some [bn (Int.ofNat (Nat.gcd x.natAbs y.natAbs))]
  | _,_=>none
 | _=>none
theorem wE:Ab.Spec base.P 150 xM:=Ab.Spec.bN (C:=CC L4) (cU afN) fun args rs h=>by
 unfold xM at h
 split at h
 ·split at h
  ·rename_i x y ex ey
   obtain⟨rfl,hx⟩:=dR ex
   obtain⟨rfl,hy⟩:=dR ey
   simp only[Option.some.injEq] at h
   subst h
   obtain⟨f1,wr1,p1,p2,p3,p4,p5⟩:=Y7 L4 (runK (CC L4) (y.natAbs+1)) (y.natAbs+1) (bt x) (bt y) (aA x.natAbs) (aA y.natAbs)
   rcases DT (runK (CC L4) (y.natAbs+1)) (y.natAbs+1) ⟨.live,[.sc (.bool (bt x)),aL (aA x.natAbs)]⟩ ⟨.live,[.sc (.bool (bt y)),aL (aA y.natAbs)]⟩ (y.natAbs+1) y.natAbs x.natAbs f1 wr1 (by omega) hx.le9 hy.le9 p2 p3 p4 p5 with ⟨f2,wr2,q1,q2,q3,q4⟩| ⟨f2,wr2,q1,q2⟩
   ·obtain⟨st,e1,e2⟩:=Tw L4 (runK (CC L4) (y.natAbs+1)) (y.natAbs+1) f2 _ _ wr2 _ q2 q3 q4
    have hx:af (CC L4) (runK (CC L4) (y.natAbs+1)) (y.natAbs+1) DU ⟨entry 41 [bn x,bn y],[],[]⟩=some (.ret,st):=by
     rw[bn,bn,aM 2 p1,zA,aw (bF q1)]
     exact e1
    exact⟨y.natAbs+2,_,_,_,_,_,aQ E6 rfl hx e2,iX _ (Int.ofNat (Nat.gcd x.natAbs y.natAbs)),Wk.refl rfl,trivial⟩
   ·have hx:af (CC L4) (runK (CC L4) (y.natAbs+1)) (y.natAbs+1) DU ⟨entry 41 [bn x,bn y],[],[]⟩=some (.ret,⟨f2,[⟨.live,[.sc (.bool (bt x)),aL (aA x.natAbs)]⟩,⟨.live,[.sc (.bool (bt y)),aL (aA y.natAbs)]⟩,⟨.live,[.sc (.bool false),aL (aA (Nat.gcd x.natAbs y.natAbs))]⟩],wr2⟩):=by
     rw[bn,bn,aM 2 p1,zA,cm (cW q1)]
    exact⟨y.natAbs+2,_,_,_,_,_,aQ E6 rfl hx (Y6 f2 _ _ _ q2),iX _ (Int.ofNat (Nat.gcd x.natAbs y.natAbs)),Wk.refl rfl,trivial⟩
  ·cases h
 ·cases h
noncomputable def L5:Lst:=[(166,jJ),(152,fP),(101,jo),(97,ofF),(168,KM),(139,tE)]
theorem afM:dM base.P L5:=⟨oH,jX,kM,nI,BU,qu,trivial⟩
theorem Sb:bu L5 166=fun a=>jJ (aJ a):=rfl
theorem MN:bu L5 152=fun a=>fP (aJ a):=rfl
theorem Yb:bu L5 101=fun a=>jo (aJ a):=rfl
theorem aeV:bu L5 97=fun a=>ofF (aJ a):=rfl
theorem aco:bu L5 168=fun a=>KM (aJ a):=rfl
theorem acp:bu L5 139=fun a=>tE (aJ a):=rfl
theorem ED (run:aq)(dr:Bool)(x y:Nat)(hx:(aA x).length≤900000)(hy:(aA y).length≤900000)(hy0:y≠0) :
  ∃ q r,(∀ hp,cb (CC L5) run dr hp 166 [aL (aA x),aL (aA y)]=some (.tup [aL q,aL r],hp,⟨[],[],false,false⟩))∧Dok q∧val q=x / y∧q.length<1000000∧Dok r∧val r=x % y∧r.length<1000000:=by
 obtain⟨q,r,h1,h2⟩:=vO x y hx hy hy0
 exact⟨q,r,fun hp=>bp Ck Sb run dr hp [aL (aA x),aL (aA y)] [aL q,aL r] (lW hp _ _) (jR _ _) h1,h2⟩
theorem qn (run:aq)(dr:Bool)(hp:List Blk)(n:Bool)(l:List Nat)(hd:Dok l)(hl:l.length<1000000) :
  cb (CC L5) run dr hp 152 [.sc (.bool n),aL l]=some (bn (sgn n (val l)),hp,⟨[],[],false,false⟩) :=
 bp nB MN run dr hp _ [bn (sgn n (val l))] (J7 hp n l) (EA n l) (by simp only[fP,cS hd hl])
theorem HQ (run:aq)(dr:Bool)(hp:List Blk)(x:Int)(hx:Sm x):cb (CC L5) run dr hp 101 [bn x]=some (Ab.bC x.sign,hp,⟨[],[],false,false⟩) :=
 bp tJ Yb run dr hp _ [Ab.bC x.sign] (lV hp x) (jv x) (by simp only[jo,cG hx])
theorem UU (run:aq)(dr:Bool)(hp:List Blk):cb (CC L5) run dr hp 97 [.sc (.int .i64 1)]=some (bn 1,hp,⟨[],[],false,false⟩) :=
 bp yr aeV run dr hp _ [bn 1] rfl rfl rfl
theorem NS (run:aq)(dr:Bool)(hp:List Blk)(x y:Int)(hx:Sm x)(hy:Sm y):cb (CC L5) run dr hp 168 [bn x,bn y]=some (bn (x - y),hp,⟨[],[],false,false⟩) :=
 bp abk aco run dr hp _ [bn (x - y)] (gC hp x y) (fk x y) (by simp only[KM,cG hx,cG hy])
theorem NT (run:aq)(dr:Bool)(hp:List Blk)(x y:Int)(hx:Sm x)(hy:Sm y):cb (CC L5) run dr hp 139 [bn x,bn y]=some (bn (x+y),hp,⟨[],[],false,false⟩) :=
 bp FN acp run dr hp _ [bn (x+y)] (gC hp x y) (fk x y) (by simp only[tE,cG hx,cG hy])
noncomputable def divC:Code:=Tryz.f151.body.getD .skip
def wX (x y:Int):Bool := !(x.natAbs % y.natAbs).beq 0 && (bt x != bt y)
def lQ (x y:Int):Int:=bif wX x y then sgn (bt x != bt y) (x.natAbs / y.natAbs) - 1 else sgn (bt x != bt y) (x.natAbs / y.natAbs)
def Bg (x y:Int):Int:=bif wX x y then sgn (bt x) (x.natAbs % y.natAbs)+y else sgn (bt x) (x.natAbs % y.natAbs)
theorem Sm.of_le {x y:Int}(h:Sm y)(hl:x.natAbs≤y.natAbs):Sm x:=Nat.lt_of_le_of_lt (cw hl) h
theorem uQ (n:Bool)(v:Nat):(sgn n v).natAbs=v:=by
 rw[qP];cases n <;> simp
set_option maxHeartbeats 4000000 in
theorem ZD (run:aq)(k:Nat)(nx ny nq nr:Bool)(a b qd rd qq rr:List Nat)
  (hc1:∀ hp,cb (CC L5) run false hp 166 [aL a,aL b]=some (.tup [aL qd,aL rd],hp,⟨[],[],false,false⟩))
  (hc2:∀ dr hp,cb (CC L5) run dr hp 152 [.sc (.bool (nx != ny)),aL qd]=some (.agg [.sc (.bool nq),aL qq],hp,⟨[],[],false,false⟩))
  (hc3:∀ dr hp,cb (CC L5) run dr hp 152 [.sc (.bool nx),aL rd]=some (.agg [.sc (.bool nr),aL rr],hp,⟨[],[],false,false⟩)) :
  ∃ fr wr,aX (CC L5) run k 3 divC ⟨entry 45 [wh nx a,wh ny b],[],[]⟩=some ⟨fr,[⟨.live,[.sc (.bool nx),aL a]⟩,⟨.live,[.sc (.bool ny),aL b]⟩,⟨.live,[.sc (.bool nq),aL qq]⟩,⟨.live,[.sc (.bool nr),aL rr]⟩],wr⟩∧fr.length=45∧nth fr 2 = .ptr 0 0∧nth fr 3 = .ptr 1 0∧nth fr 4 = .ptr 2 0∧nth fr 5 = .ptr 3 0:=by
 obtain⟨e1,e2,e3⟩:=cn 43 (wh nx a) (wh ny b)
 generalize entry 45 [wh nx a,wh ny b]=fr0 at *
 have e4:∀ n l,wh n l = .agg [.sc (.bool n),aL l]:=fun _ _=>rfl
 rw[e4] at e2 e3
 cases nx <;> cases ny <;> simp only[bne_self_eq_false,Bool.bne_true,Bool.bne_false,Bool.not_false] at hc2 <;>
 simp[divC,Tryz.f151,aX,e1,e2,e3,af,aH,an,ao,aG,ag,ai,aO,aj,ak,aC,az,FP.none,aY,dB,bL,partOf,aa,ae,ab,bh,and_assoc,bm,bS,bD,bc,hc1,hc2,hc3,uB,uW,sB,sD,sW,zW,aB,aD,wf0,wf1,aP,aU,aZ,cf,br,bX,number,FP.free,cH,FP.apart]
def ko:Code→Array Oper
 | .region _ ops _=>ops
 | .cond _ a _=>ko a
 | _=>#[]
noncomputable def pZ:Code:=seq1 (ah 3 divC)
theorem zM:ah 3 divC = .seq pZ (ah 4 divC):=rfl
set_option maxHeartbeats 4000000 in
theorem T0 (run:aq)(k:Nat)(fr:List PV)(wr:List Nat)(nx ny nq nr:Bool)(a b qq rr:List Nat)(s:Int)(hne:s=0∨nx=ny)
  (hc4:∀ dr hp,cb (CC L5) run dr hp 101 [.agg [.sc (.bool nr),aL rr]]=some (.sc (.int .i64 s),hp,⟨[],[],false,false⟩))
  (h45:fr.length=45) (h2:nth fr 2 = .ptr 0 0) (h3:nth fr 3 = .ptr 1 0) (h4:nth fr 4 = .ptr 2 0) (h5:nth fr 5 = .ptr 3 0) :
  ∃ fr' wr',af (CC L5) run k pZ ⟨fr,[⟨.live,[.sc (.bool nx),aL a]⟩,⟨.live,[.sc (.bool ny),aL b]⟩,⟨.live,[.sc (.bool nq),aL qq]⟩,⟨.live,[.sc (.bool nr),aL rr]⟩],wr⟩=some (.normal,⟨fr',[⟨.live,[.sc (.bool nx),aL a]⟩,⟨.live,[.sc (.bool ny),aL b]⟩,⟨.live,[.sc (.bool nq),aL qq]⟩,⟨.live,[.sc (.bool nr),aL rr]⟩],wr'⟩)∧fr'.length=45∧nth fr' 4 = .ptr 2 0∧nth fr' 5 = .ptr 3 0:=by
 by_cases hs:s=0
 ·subst hs
  simp[pZ,divC,Tryz.f151,seq1,ah,h45,h4,h5,af,aH,an,ao,aG,ag,ai,aO,aj,ak,aC,az,FP.none,aY,au,bf,av,partOf,aa,ae,ab,bh,and_assoc,hc4,sW,aW,aU,aZ,br,bE]
 ·have hn:nx=ny:=by rcases hne with h | h;exact absurd h hs;exact h
  subst hn
  have hs2:(s != 0)=true:=by simpa using hs
  cases nx <;> simp[pZ,divC,Tryz.f151,seq1,ah,h45,h2,h3,h4,h5,af,aH,an,ao,aG,ag,ai,aO,aj,ak,aC,az,FP.none,aY,au,bf,dB,av,bL,partOf,aa,ae,ab,bh,and_assoc,hc4,hs2,uB,uW,sB,sW,aB,aW,wf0,wf1,aU,aZ,br,bE]
theorem adu:((Region.before (ko (cB pZ)))[6]?.getD 0).testBit 0=true:=by kernel_rfl
theorem adt:((Region.before (ko (cB pZ)))[7]?.getD 0).testBit 3=true:=by kernel_rfl
theorem ads:((Region.before (ko (seq1 (ah 4 divC))))[2]?.getD 0).testBit 0=true:=by kernel_rfl
theorem adr:((Region.before (ko (seq1 (ah 4 divC))))[3]?.getD 0).testBit 1=true:=by kernel_rfl
set_option maxHeartbeats 4000000 in
theorem TZ (run:aq)(k:Nat)(fr:List PV)(wr:List Nat)(nx nq nr nq2 nr2:Bool)(a b qq rr qq2 rr2 one:List Nat)(s:Int)(hs:s≠0)
  (hc4:∀ dr hp,cb (CC L5) run dr hp 101 [.agg [.sc (.bool nr),aL rr]]=some (.sc (.int .i64 s),hp,⟨[],[],false,false⟩))
  (hc5:∀ dr hp,cb (CC L5) run dr hp 97 [.sc (.int .i64 1)]=some (.agg [.sc (.bool false),aL one],hp,⟨[],[],false,false⟩))
  (hc6:∀ dr hp,cb (CC L5) run dr hp 168 [.agg [.sc (.bool nq),aL qq],.agg [.sc (.bool false),aL one]]=some (.agg [.sc (.bool nq2),aL qq2],hp,⟨[],[],false,false⟩))
  (hc7:∀ dr hp,cb (CC L5) run dr hp 139 [.agg [.sc (.bool nr),aL rr],.agg [.sc (.bool (!nx)),aL b]]=some (.agg [.sc (.bool nr2),aL rr2],hp,⟨[],[],false,false⟩))
  (h45:fr.length=45) (h2:nth fr 2 = .ptr 0 0) (h3:nth fr 3 = .ptr 1 0) (h4:nth fr 4 = .ptr 2 0) (h5:nth fr 5 = .ptr 3 0) :
  ∃ fr' wr',af (CC L5) run k pZ ⟨fr,[⟨.live,[.sc (.bool nx),aL a]⟩,⟨.live,[.sc (.bool (!nx)),aL b]⟩,⟨.live,[.sc (.bool nq),aL qq]⟩,⟨.live,[.sc (.bool nr),aL rr]⟩],wr⟩=some (.normal,⟨fr',[⟨.live,[.sc (.bool nx),aL a]⟩,⟨.live,[.sc (.bool (!nx)),aL b]⟩,⟨.live,[.sc (.bool nq2),aL qq2]⟩,⟨.live,[.sc (.bool nr2),aL rr2]⟩],wr'⟩)∧fr'.length=45∧nth fr' 4 = .ptr 2 0∧nth fr' 5 = .ptr 3 0:=by
 have hs2:(s != 0)=true:=by simpa using hs
 have hb1:=adu
 have hb2:=adt
 simp only[pZ,divC,Tryz.f151,seq1,cB,ah,ko,Option.getD_some] at hb1 hb2
 cases nx <;> simp only[Bool.not_true,Bool.not_false] at hc7 ⊢ <;> simp[-Nat.testBit_zero,hb1,hb2,pZ,divC,Tryz.f151,seq1,ah,h45,h2,h3,h4,h5,af,aH,an,ao,aG,ag,ai,aO,aj,ak,aC,az,FP.none,aY,au,bf,dB,av,bL,partOf,aa,ae,ab,bh,and_assoc,bm,bS,bD,bc,hc4,hc5,hc6,hc7,hs2,uB,uW,sB,sW,aB,aW,wf0,wf1,aU,aZ,cf,bX,br,bE,number,FP.free,cH,FP.apart]
set_option maxHeartbeats 4000000 in
theorem Eg (L:Lst)(run:aq)(k:Nat)(fr:List PV)(wr:List Nat)(b0 b1:Blk)(nq nr:Bool)(qq rr:List Nat)(h45:fr.length=45)(h4:nth fr 4 = .ptr 2 0)(h5:nth fr 5 = .ptr 3 0) :
  ∃ st,af (CC L) run k (ah 4 divC) ⟨fr,[b0,b1,⟨.live,[.sc (.bool nq),aL qq]⟩,⟨.live,[.sc (.bool nr),aL rr]⟩],wr⟩=some (.ret,st)∧aV TT st.fr st.hp Tryz.f151.results.toList=some [.agg [.sc (.bool nq),aL qq],.agg [.sc (.bool nr),aL rr]]:=by
 have hb1:=ads
 have hb2:=adr
 simp only[divC,Tryz.f151,seq1,ah,ko,Option.getD_some] at hb1 hb2
 simp[-Nat.testBit_zero,hb1,hb2,divC,Tryz.f151,ah,h45,h4,h5,af,aH,an,ao,aG,ag,ai,aj,ak,aC,az,partOf,aa,ae,ab,bh,bm,bS,bD,bc,sW,aW,aU,aZ,cf,bX,br,bE,aV,number,FP.free,cH,FP.apart]
theorem Pp (n:Bool):sgn n 0=0:=by cases n <;> rfl
theorem O2 {n:Bool}{v:Nat}(h:v≠0):(sgn n v).sign≠0:=by
 intro h'
 have h2:=Int.sign_eq_zero_iff_zero.1 h'
 rw[qP] at h2
 cases n <;> simp at h2 <;> omega
theorem T9 (run:aq)(k:Nat)(x y:Int)(hx:Sm x)(hy:Sm y)(hy0:y.natAbs≠0) :
  ∃ st,af (CC L5) run k divC ⟨entry 45 [bn x,bn y],[],[]⟩=some (.ret,st)∧aV TT st.fr st.hp Tryz.f151.results.toList=some [bn (lQ x y),bn (Bg x y)]:=by
 obtain⟨q,rd,hc1,hq1,hq2,hq3,hr1,hr2,hr3⟩:=ED run false x.natAbs y.natAbs hx.le9 hy.le9 hy0
 have hm:=Nat.mod_lt x.natAbs (show 0<y.natAbs by omega)
 have hc2:=fun dr hp=>qn run dr hp (bt x != bt y) q hq1 hq3
 have hc3:=fun dr hp=>qn run dr hp (bt x) rd hr1 hr3
 rw[hq2] at hc2
 rw[hr2] at hc3
 have hRS:Sm (sgn (bt x) (x.natAbs % y.natAbs)):=hy.of_le (by rw[uQ];omega)
 have hQS:Sm (sgn (bt x != bt y) (x.natAbs / y.natAbs)):=hx.of_le (by rw[uQ];exact Nat.div_le_self _ _)
 have hc4:=fun dr hp=>HQ run dr hp _ hRS
 have hsg:x.natAbs % y.natAbs≠0→(sgn (bt x) (x.natAbs % y.natAbs)).sign≠0:=fun h=>O2 h
 have hsg0:x.natAbs % y.natAbs=0→(sgn (bt x) (x.natAbs % y.natAbs)).sign=0:=fun h=>by rw[h,Pp];rfl
 obtain⟨Q,hQ⟩:∃ Q,Q=sgn (bt x != bt y) (x.natAbs / y.natAbs):=⟨_,rfl⟩
 obtain⟨R,hR⟩:∃ R,R=sgn (bt x) (x.natAbs % y.natAbs):=⟨_,rfl⟩
 have hdq:lQ x y=bif wX x y then Q - 1 else Q:=by rw[hQ];rfl
 have hdr:Bg x y=bif wX x y then R+y else R:=by rw[hR];rfl
 rw[hdq,hdr]
 rw[← hQ] at hc2 hQS
 rw[← hR] at hc3 hc4 hRS hsg hsg0
 simp only[whW,Ab.bC] at hc2 hc3 hc4
 obtain⟨f1,wr1,p1,p2,p3,p4,p5,p6⟩:=ZD run k (bt x) (bt y) (bt Q) (bt R) (aA x.natAbs) (aA y.natAbs) q rd (aA Q.natAbs) (aA R.natAbs) hc1 hc2 hc3
 by_cases hd:x.natAbs % y.natAbs≠0∧bt x≠bt y
 ·have hA:wX x y=true:=by
   have h1:(x.natAbs % y.natAbs).beq 0=false:=by
    cases e:x.natAbs % y.natAbs with
    | zero=>exact absurd e hd.1
    | succ n=>rfl
   have h2:(bt x != bt y)=true:=by simpa using hd.2
   simp[wX,h1,h2]
  have hn:bt y = !bt x:=by
   revert hd;cases bt x <;> cases bt y <;> simp
  have hc5:=fun dr hp=>UU run dr hp
  have hc6:=fun dr hp=>NS run dr hp Q 1 hQS (show Sm 1 by unfold Sm;decide)
  have hc7:=fun dr hp=>NT run dr hp R y hRS hy
  rw[hA]
  simp only[cond_true]
  simp only[whW] at hc5 hc6 hc7
  rw[show bt (1:Int)=false from rfl] at hc5 hc6
  rw[hn] at hc7 p1
  obtain⟨f2,wr2,q1,q2,q3,q4⟩:=TZ run k f1 wr1 (bt x) (bt Q) (bt R) (bt (Q - 1)) (bt (R+y)) (aA x.natAbs) (aA y.natAbs) (aA Q.natAbs) (aA R.natAbs) (aA (Q - 1).natAbs) (aA (R+y).natAbs) (aA (1:Int).natAbs) R.sign (hsg hd.1) hc4 hc5 hc6 hc7 p2 p3 p4 p5 p6
  obtain⟨st,e1,e2⟩:=Eg L5 run k f2 wr2 ⟨.live,[.sc (.bool (bt x)),aL (aA x.natAbs)]⟩ ⟨.live,[.sc (.bool (!bt x)),aL (aA y.natAbs)]⟩ (bt (Q - 1)) (bt (R+y)) (aA (Q - 1).natAbs) (aA (R+y).natAbs) q2 q3 q4
  refine⟨st,?_,e2⟩
  rw[bn,bn,hn,aM 3 p1,zM,aw q1]
  exact e1
 ·have hA:wX x y=false:=by
   by_cases h0:x.natAbs % y.natAbs=0
   ·simp[wX,h0]
   ·have h2:bt x=bt y:=by
     refine Classical.byContradiction fun h3=>hd ⟨h0,h3⟩
    simp[wX,h2]
  have hne:R.sign=0∨bt x=bt y:=by
   by_cases h0:x.natAbs % y.natAbs=0
   ·exact .inl (hsg0 h0)
   ·exact .inr (Classical.byContradiction fun h3=>hd ⟨h0,h3⟩)
  rw[hA]
  simp only[cond_false]
  obtain⟨f2,wr2,q1,q2,q3,q4⟩:=T0 run k f1 wr1 (bt x) (bt y) (bt Q) (bt R) (aA x.natAbs) (aA y.natAbs) (aA Q.natAbs) (aA R.natAbs) R.sign hne hc4 p2 p3 p4 p5 p6
  obtain⟨st,e1,e2⟩:=Eg L5 run k f2 wr2 ⟨.live,[.sc (.bool (bt x)),aL (aA x.natAbs)]⟩ ⟨.live,[.sc (.bool (bt y)),aL (aA y.natAbs)]⟩ (bt Q) (bt R) (aA Q.natAbs) (aA R.natAbs) q2 q3 q4
  refine⟨st,?_,e2⟩
  rw[bn,bn,aM 3 p1,zM,aw q1]
  exact e1
def Nx:List PV→Option (List PV)
 | [p,q]=>match fL p,fL q with
  | some x,some y=>bif !(y.natAbs.beq 0) then some [bn (lQ x y),bn (Bg x y)] else none
  | _,_=>none
 | _=>none
theorem acb (hp:List Blk)(x y:Int):bq (snap hp bj) [bn x,bn y]=some ([bn x,bn y],[]):=rfl
theorem Ef:Ab.Spec base.P 151 Nx:=Ab.Spec.bN (C:=CC L5) (cU afM) fun args rs h=>by
 unfold Nx at h
 split at h
 ·split at h
  ·rename_i x y ex ey
   obtain⟨rfl,hx⟩:=dR ex
   obtain⟨rfl,hy⟩:=dR ey
   by_cases hy0:y.natAbs=0
   ·rw[hy0] at h;simp at h
   ·rw[jT hy0] at h
    simp only[Bool.not_false,cond_true,Option.some.injEq] at h
    subst h
    obtain⟨st,e1,e2⟩:=T9 (runK (CC L5) 1) 1 x y hx hy hy0
    exact⟨2,_,_,_,_,_,aQ E7 rfl e1 e2,acb _ _ _,Wk.refl rfl,Wk.refl rfl,trivial⟩
  ·cases h
 ·cases h
end Go.Proofs.YtjdmodeenbdfpaaGreat
