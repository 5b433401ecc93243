/- Contracts of num's integers, part 20 of the proof; each lemma states its own conditions. -/
import Derived.Test.YtjdmodeenbdfpaaGreatT19
import Derived.Test.YtjdmodeenbdfpaaGreatT16
set_option linter.unusedSimpArgs false
set_option linter.unusedVariables false
noncomputable section
namespace Go.Proofs.YtjdmodeenbdfpaaGreat
open Go Go.Ab Tryz
attribute [local simp] FzZ aA aF aG aH aL aU aV aW aY aa ab ae af ag ah ai aj an and_assoc ao aq aw az bF bG bO bZ bc bd bh bj bp br cB ch cq partOf sW uD uW wf0 wf1
theorem OH:Ab.Spec base.P 182 EG:=Ab.Spec.bM (C:=CC LK) (cP aiZ) fun args rs h=>by
 unfold EG at h
 split at h
 ·split at h
  ·rename_i a b ea eb
   obtain⟨rfl,ha,hla⟩:=dI ea
   obtain⟨rfl,hb,hlb⟩:=dI eb
   cases hc:vc b && Nat.ble 2 b.length && Nat.ble b.length a.length && Nat.ble a.length 900000 with
   | false=>rw[hc] at h;cases h
   | true =>
    rw[hc] at h
    simp only[cond_true,OiE] at h
    subst h
    simp only[Bool.and_eq_true,Nat.ble_eq] at hc
    obtain⟨⟨⟨hc1,hc2⟩,hc3⟩,hc4⟩:=hc
    have hT:=nC hc1
    obtain⟨mm,hmm⟩:∃ mm,b.length=mm+2:=⟨b.length - 2,by omega⟩
    obtain⟨k,hk⟩:∃ k,k=1000000000 / (at0 b (mm+1)+1):=⟨_,rfl⟩
    obtain⟨s1,s2,s3,s4,s5,s6⟩:=MO hb hT hmm hk
    have hblt:val a*k<1000000000 ^ (a.length+1):=by
     rw[Nat.pow_succ]
     exact Nat.lt_of_lt_of_le (Nat.mul_lt_mul_of_pos_right (fh ha) s1) (Nat.mul_le_mul_left _ (by omega))
    have hVlt:val b*k<1000000000 ^ (b.length+1):=by
     rw[Nat.pow_succ]
     exact Nat.lt_of_lt_of_le (Nat.mul_lt_mul_of_pos_right (fh hb) s1) (Nat.mul_le_mul_left _ (by omega))
    have hb0:0<val b:=by
     rcases Nat.eq_zero_or_pos (val b) with h | h
     ·rw[h] at s3
      have:0<1000000000 ^ (mm+1+1):=Nat.pow_pos (by omega)
      omega
     ·exact h
    obtain⟨f0,wr0,p1,p2,p3,p4⟩:=Ou LK (runK (CC LK) (a.length+3)) (a.length+3) (aQ a) (aQ b)
    obtain⟨f1,wr1,q1,q2,q3,q4,q5⟩:=Ot LK (runK (CC LK) (a.length+3)) (a.length+3) f0 wr0 a b (mm+1) _ _ k hb hlb hmm rfl rfl hk p2 p3 p4
    have hc1':=rV (a.length+2) false [] a k ha s2 hla (by omega)
    have hc2':=rV (a.length+2) false [⟨.live,(di (a.length+1) (val a*k)).map dg⟩] b k hb s2 hlb (by omega)
    have hc3':=IX (runK (CC LK) (a.length+3)) false [⟨.live,(di (a.length+1) (val a*k)).map dg⟩,⟨.live,(di (b.length+1) (val b*k)).map dg⟩] 1 (b.length+1) (di (b.length+1) (val b*k)) (gU _ _) (dC _ _) (by omega) rfl
    rw[fA _ _ hVlt] at hc3'
    obtain⟨f2,wr2,r1,r2,r3,r4,r5⟩:=Oq (runK (CC LK) (a.length+3)) (a.length+3) f1 wr1 a b (aK (val b*k)) _ _ k _ _ _ _ _ q2 q3 q4 q5 hc1' hc2' hc3'
    have hvl:(aK (val b*k)).length=b.length:=by rw[s5,hmm]
    obtain⟨f3,wr3,t1,t2,t3,t4,t5,t6,t7⟩:=Oo LK (runK (CC LK) (a.length+3)) (a.length+3) f2 wr2 (di (a.length+1) (val a*k)) (di (b.length+1) (val b*k)) (aK (val b*k)) (dg k) (a.length+1) (a.length+1 - b.length) (by omega) (by omega) r2 r3 r4 r5
    obtain⟨f4,w1,w2⟩:=abr LK (runK (CC LK) (a.length+3)) (a.length+3) f3 (hpL ⟨.ro,(di (b.length+1) (val b*k)).map dg⟩ (di (a.length+1) (val a*k)) (List.replicate (a.length+1 - b.length) 0)) wr3 (aK (val b*k)) (dg k) (a.length+1) (a.length+1 - b.length) b.length (by omega) (by omega) hvl t2 t3 t4 t5 t6 t7
    have hLI:=LI.init (a:=val a) (b:=val b) (k:=k) (n:=b.length) (la:=a.length) (u:=di (a.length+1) (val a*k)) (by rw[fA _ _ hblt,Nat.mul_comm]) (gU _ _) (dC _ _) (fh ha) (by rw[hmm];exact s3) s1 (by omega)
    have hvv:val (aK (val b*k))=k*val b:=by rw[cj,Nat.mul_comm]
    rw[← hvv] at hLI
    obtain⟨f5,wr5,u,q,x1,x2,x3,x4⟩:=Ay LK (runK (CC LK) (a.length+3)) (a.length+3) ⟨.ro,(di (b.length+1) (val b*k)).map dg⟩ _ (a.length+1) (a.length+1 - b.length) b.length mm (dg k) (aK (val b*k)) (cb _) hvl hmm (by omega) (by omega) (by omega) s6 (a.length+1 - b.length) f4 wr3 _ _ hLI (by omega) (by simp) w2
    rw[hvv] at x2
    obtain⟨y1,y2⟩:=x2.done s1 hb0
    have hul:=x2.ul
    have hmod:=Nat.mod_lt (val a) hb0
    have hsm:val u<1000000000 ^ b.length:=by
     rw[y2,hmm]
     refine Nat.lt_trans ?_ s4
     rw[Nat.mul_comm]
     exact Nat.mul_lt_mul_of_pos_right hmod s1
    have htk:=vV hsm
    have hc4':=Fw (runK (CC LK) (a.length+3)) false (hpL ⟨.ro,(di (b.length+1) (val b*k)).map dg⟩ u q) 0 b.length k u x2.uok (by omega) (by omega) s1 s2 rfl
    rw[htk,y2,Nat.mul_div_cancel_left _ s1] at hc4'
    obtain⟨st,e1,e2,e3⟩:=Ov (runK (CC LK) (a.length+3)) (a.length+3) f5 wr5 u q _ k (a.length+1) (a.length+1 - b.length) b.length 0 _ _ _ _ (by omega) x4 hc4'
    have hx:af (CC LK) (runK (CC LK) (a.length+3)) (a.length+3) ir ⟨entry 239 [aQ a,aQ b],[],[]⟩=some (.ret,st):=by
     rw[aO 1 p1,aO 1 q1,show ah 1 (ah 1 ir)=ah 2 ir from rfl,aO 1 r1,show ah 1 (ah 2 ir)=ah 3 ir from rfl,aO 2 t1,show ah 2 (ah 3 ir)=ah 5 ir from rfl,OB,
      av ((av w1).trans (bN (ca x1 (by omega))))]
     exact e1
    have hq:q=di (a.length+1 - b.length) (val a / val b):=x2.qok.pZ (by have:=x2.ql;omega) y1
    have hs:=wm (hp:=[⟨.ro,u.map dg⟩,⟨.ro,(di (b.length+1) (val b*k)).map dg⟩,⟨.live,q.map dg⟩]) (id:=2) (l:=q) rfl (a.length+1 - b.length) true (by omega) 10
    rw[List.take_of_length_le (by omega)] at hs
    refine⟨a.length+4,_,_,_,[.imm (a.length+1 - b.length) true (q.map dg),aQ (di b.length (val a % val b))],[2],aP PI rfl hx e2,?_,?_,Wk.refl rfl,trivial⟩
    ·rw[e3]
     show bq (Ab.snap _ 12) _=_
     simp only[bq,hs]
     rfl
    ·rw[← hq]
     have:=Wk.imm (a.length+1 - b.length) true (q.map dg)
     rw[aQ,x3]
     exact this
  ·cases h
 ·cases h
def AW (p:PV):Option Nat:=match iw p with
 | some l=>bif vc l then some (val l) else none
 | none=>none
theorem yj {p:PV}{n:Nat}(h:AW p=some n):p=aQ (aK n)∧(aK n).length<1000000:=by
 unfold AW at h
 split at h
 ·rename_i l e
  obtain⟨h1,h2,h3⟩:=dI e
  cases ht:vc l with
  | false=>rw[ht] at h;cases h
  | true =>
   rw[ht] at h
   simp at h;subst h
   rw[kF h2 (nC ht)]
   exact⟨h1,h3⟩
 ·cases h
theorem l8 {n:Nat}(h:(aK n).length<1000000):AW (aQ (aK n))=some n:=by
 simp[AW,dc (cb n) h,qG (jK n),cj]
def L3:Lst:=[(167,jB),(146,tK),(181,nF),(182,EG)]
theorem ai3:dw base.P L3:=⟨jf,zw,wx,OH,trivial⟩
theorem aaB:bu L3 146=fun a=>tK (aJ a):=rfl
theorem TX:bu L3 181=fun a=>nF (aJ a):=rfl
theorem aaC:bu L3 182=fun a=>EG (aJ a):=rfl
theorem rJ {y:Nat}(h:1000000000≤y):2≤(aK y).length:=by
 rcases Nat.lt_or_ge (aK y).length 2 with h2 | h2
 ·have h3:=fL y
  have h4:(1000000000:Nat) ^ (aK y).length≤1000000000 ^ 1:=Nat.pow_le_pow_right (by omega) (by omega)
  omega
 ·exact h2
theorem I1 (run:ar)(dr:Bool)(hp:List Blk)(x y:Nat)(hx:(aK x).length≤900000)(hy:1000000000≤y)(hxy:y≤x) :
  bX (CC L3) run dr hp 182 [aQ (aK x),aQ (aK y)]=some (.tup [aQ (di ((aK x).length+1 - (aK y).length) (x / y)),aQ (di (aK y).length (x % y))],hp,⟨[],[],false,false⟩):=by
 have h1:=rJ hy
 have h2:=cK hxy
 have h3:Nat.ble 2 (aK y).length=true:=Nat.ble_eq ▸ h1
 have h4:Nat.ble (aK y).length (aK x).length=true:=Nat.ble_eq ▸ h2
 have h5:Nat.ble (aK x).length 900000=true:=Nat.ble_eq ▸ hx
 exact bw YY aaC run dr hp _ [aQ (di ((aK x).length+1 - (aK y).length) (x / y)),aQ (di (aK y).length (x % y))] (m5 hp _ _) (kK _ _)
  (by simp only[EG,dc (cb x) (show (aK x).length<1000000 by omega),dc (cb y) (show (aK y).length<1000000 by omega),qG (jK y),h3,h4,h5,Bool.and_self,cond_true,cj])
theorem qj (run:ar)(dr:Bool)(hp:List Blk)(x y:Nat)(hx:(aK x).length<1000000)(hy:(aK y).length<1000000) :
  bX (CC L3) run dr hp 146 [aQ (aK x),aQ (aK y)]=some (Ab.bz (ee x y),hp,⟨[],[],false,false⟩) :=
 bw J0 aaB run dr hp _ [Ab.bz (ee x y)] (m5 hp _ _) (kK _ _) (by simp only[tK,dc (cb _) hx,dc (cb _) hy,ml])
theorem FA (run:ar)(dr:Bool)(hp:List Blk)(x b:Nat)(hx:(aK x).length<1000000)(hb:0<b)(hb2:b<1000000000) :
  bX (CC L3) run dr hp 181 [aQ (aK x),dg b]=some (.tup [aQ (di (aK x).length (x / b)),dg (x % b)],hp,⟨[],[],false,false⟩):=by
 obtain⟨b,rfl⟩:∃ c,b=c+1:=⟨b - 1,by omega⟩
 exact bw C3 TX run dr hp [aQ (aK x),dg (b+1)] [aQ (di (aK x).length (x / (b+1))),dg (x % (b+1))] rfl (by simp only[aJ,fP];rfl) (by simp only[nF,dc (cb _) hx,Wo hb2,cj])
theorem I0 (run:ar)(dr:Bool)(hp:List Blk)(r:Nat)(hr:r<1000000000) :
  bX (CC L3) run dr hp 167 [.imm 1 true [dg r]]=some (aQ (aK r),hp,⟨[],[],false,false⟩):=by
 have h3:(CC L3).orc 167 [.imm 1 true [dg r]]=some [aQ (aK r)]:=by
  show jB (aJ [.imm 1 true [dg r]])=_
  have h1:aJ [.imm 1 true [dg r]]=[aQ [r]]:=rfl
  have h2:Dok [r]:=Dok.nil.cons hr
  rw[h1]
  simp only[jB,dc h2 (by simp),eX h2]
  simp[val]
 have h4:bq (snap hp bn) [.imm 1 true [dg r]]=some ([.imm 1 true [dg r]],[]):=rfl
 exact eJ vr h4 h3 rfl
def sV:Code:=f166.body.getD .skip
theorem DX (run:ar)(k:Nat)(x y:Nat)(hx:(aK x).length<1000000)(hy:(aK y).length<1000000)(hxy:x<y) :
  ∃ st,af (CC L3) run k sV ⟨entry 35 [aQ (aK x),aQ (aK y)],[],[]⟩=some (.ret,st)∧aU TT st.fr st.hp f166.results.toList=some [.sc (.slice none 0 0),aQ (aK x)]:=by
 have hc:=fun hp dr=>qj run dr hp x y hx hy
 rw[ee,if_pos hxy] at hc
 simp only[Ab.bz] at hc
 obtain⟨e1,e2,e3⟩:=cn 33 (aQ (aK x)) (aQ (aK y))
 generalize entry 35 [aQ (aK x),aQ (aK y)]=fr0 at *
 generalize aK x=a at *
 generalize aK y=b at *
 simp[sV,f166,e1,e2,e3,hc]
theorem ou {y:Nat}(h:0<y)(h2:y<1000000000):aK y=[y]:=by
 rw[eC (by omega),Nat.mod_eq_of_lt h2,Nat.div_eq_of_lt h2,fB]
set_option maxHeartbeats 1000000 in
theorem DW (run:ar)(k:Nat)(x y:Nat)(hx:(aK x).length<1000000)(hy0:0<y)(hy:y<1000000000)(hxy:y≤x) :
  ∃ st,af (CC L3) run k sV ⟨entry 35 [aQ (aK x),aQ (aK y)],[],[]⟩=some (.ret,st)∧aU TT st.fr st.hp f166.results.toList=some [aQ (di (aK x).length (x / y)),aQ (aK (x % y))]:=by
 have hly:(aK y).length<1000000:=by rw[ou hy0 hy];simp
 have hc:=fun hp dr=>qj run dr hp x y hx hly
 have hcz : ¬ (ee x y<0):=by
  unfold ee
  rw[if_neg (by omega)]
  by_cases h:x=y
  ·rw[if_pos h];omega
  ·rw[if_neg h];omega
 have hc2:=fun hp dr=>FA run dr hp x y hx hy0 hy
 have hc3:=fun hp dr=>I0 run dr hp (x % y) (Nat.lt_trans (Nat.mod_lt _ hy0) hy)
 rw[ou hy0 hy] at hc ⊢
 simp only[Ab.bz] at hc
 obtain⟨e1,e2,e3⟩:=cn 33 (aQ (aK x)) (aQ [y])
 generalize entry 35 [aQ (aK x),aQ [y]]=fr0 at *
 generalize aK (x % y)=rr at *
 generalize di (aK x).length (x / y)=qq at *
 generalize aK x=a at *
 generalize ee x y=cc at *
 generalize x % y=r at *
 have e4:aQ [y] = .imm 1 false [dg y]:=rfl
 rw[e4] at hc e3
 simp[sV,f166,bg,ke,cX,e1,e2,e3,hc,hc2,hc3,hcz,s32,a32,oh,jV]
set_option maxHeartbeats 1000000 in
theorem DV (run:ar)(k:Nat)(x y:Nat)(hx:(aK x).length≤900000)(hy:1000000000≤y)(hxy:y≤x) :
  ∃ st,af (CC L3) run k sV ⟨entry 35 [aQ (aK x),aQ (aK y)],[],[]⟩=some (.ret,st)∧aU TT st.fr st.hp f166.results.toList=some [aQ (di ((aK x).length+1 - (aK y).length) (x / y)),aQ (di (aK y).length (x % y))]:=by
 have hly:(aK y).length<1000000:=Nat.lt_of_le_of_lt (cK hxy) (by omega)
 have hc:=fun hp dr=>qj run dr hp x y (by omega) hly
 have hcz : ¬ (ee x y<0):=by
  unfold ee
  rw[if_neg (by omega)]
  by_cases h:x=y
  ·rw[if_pos h];omega
  ·rw[if_neg h];omega
 have hc2:=fun hp dr=>I1 run dr hp x y hx hy hxy
 have hl1:(((aK y).length:Int) == 1)=false:=by rw[beq_eq_false_iff_ne];have:=rJ hy;omega
 simp only[Ab.bz] at hc
 obtain⟨e1,e2,e3⟩:=cn 33 (aQ (aK x)) (aQ (aK y))
 generalize entry 35 [aQ (aK x),aQ (aK y)]=fr0 at *
 generalize di ((aK x).length+1 - (aK y).length) (x / y)=qq at *
 generalize di (aK y).length (x % y)=rr at *
 generalize aK x=a at *
 generalize aK y=b at *
 generalize ee x y=cc at *
 simp[sV,f166,e1,e2,e3,hc,hc2,hcz,hl1]
def ly:List PV→Option (List PV)
 | [p,q]=>match AW p,AW q with
  | some x,some y=>bif x.blt y then some [aQ [],aQ (aK x)] else bif y.blt 1000000000 then (bif y.beq 0 then none else some [aQ (di (aK x).length (x / y)),aQ (aK (x % y))]) else
    bif (aK x).length.ble 900000 then some [aQ (di ((aK x).length+1 - (aK y).length) (x / y)),aQ (di (aK y).length (x % y))] else none
  | _,_=>none
 | _=>none
theorem mc {x y:Nat}(h : ¬ x<y):x.blt y=false:=by
 cases e:x.blt y with
 | false=>rfl
 | true=>rw[Nat.blt_eq] at e;exact absurd e h
theorem kN {y:Nat}(h:y≠0):y.beq 0=false:=by
 cases y with
 | zero=>exact absurd rfl h
 | succ y=>rfl
theorem xv:Ab.Spec base.P 166 ly:=Ab.Spec.bM (C:=CC L3) (cP ai3) fun args rs h=>by
 unfold ly at h
 split at h
 ·split at h
  ·rename_i x y ex ey
   obtain⟨rfl,hx⟩:=yj ex
   obtain⟨rfl,hy⟩:=yj ey
   by_cases hb:x<y
   ·have hb':x.blt y=true:=by rw[Nat.blt_eq];exact hb
    rw[hb'] at h
    simp only[cond_true,OiE] at h
    subst h
    obtain⟨st,e1,e2⟩:=DX (runK (CC L3) 1) 1 x y hx hy hb
    exact⟨2,_,_,_,[.sc (.slice none 0 0),aQ (aK x)],[],aP qm rfl e1 e2,rfl,Wk.nil false,Wk.refl rfl,trivial⟩
   ·rw[mc hb] at h
    by_cases hc:y<1000000000
    ·have hc':y.blt 1000000000=true:=by rw[Nat.blt_eq];exact hc
     rw[hc'] at h
     by_cases hy0:y=0
     ·subst hy0
      simp at h
     ·rw[kN hy0] at h
      simp only[cond_true,cond_false,OiE] at h
      subst h
      obtain⟨st,e1,e2⟩:=DW (runK (CC L3) 1) 1 x y hx (by omega) hc (by omega)
      exact⟨2,_,_,_,_,_,aP qm rfl e1 e2,rfl,Wk.refl rfl,Wk.refl rfl,trivial⟩
    ·rw[mc hc] at h
     cases hd:(aK x).length.ble 900000 with
     | false=>rw[hd] at h;simp at h
     | true =>
      rw[hd] at h
      simp only[cond_true,cond_false,OiE] at h
      subst h
      obtain⟨st,e1,e2⟩:=DV (runK (CC L3) 1) 1 x y (by rw[Nat.ble_eq] at hd;exact hd) (by omega) (by omega)
      exact⟨2,_,_,_,_,_,aP qm rfl e1 e2,rfl,Wk.refl rfl,Wk.refl rfl,trivial⟩
  ·cases h
 ·cases h
theorem xx (x y:Nat)(hx:(aK x).length≤900000)(hy:(aK y).length≤900000)(hy0:y≠0) :
  ∃ q r,ly [aQ (aK x),aQ (aK y)]=some [aQ q,aQ r]∧Dok q∧val q=x / y∧q.length<1000000∧Dok r∧val r=x % y∧r.length<1000000:=by
 have hx':(aK x).length<1000000:=by omega
 have hy':(aK y).length<1000000:=by omega
 have hm:=Nat.mod_lt x (show 0<y by omega)
 have hml:(aK (x % y)).length<1000000:=Nat.lt_of_le_of_lt (cK (Nat.le_of_lt hm)) hy'
 by_cases hb:x<y
 ·have hb':x.blt y=true:=by rw[Nat.blt_eq];exact hb
  exact⟨[],aK x,by simp only[ly,l8 hx',l8 hy',hb',cond_true],Dok.nil,by rw[Nat.div_eq_of_lt hb];rfl,by simp,cb _,by rw[cj,Nat.mod_eq_of_lt hb],hx'⟩
 ·by_cases hc:y<1000000000
  ·have hc':y.blt 1000000000=true:=by rw[Nat.blt_eq];exact hc
   exact⟨_,_,by simp only[ly,l8 hx',l8 hy',mc hb,hc',kN hy0,cond_true,cond_false],gU _ _,fA _ _ (Nat.lt_of_le_of_lt (Nat.div_le_self x y) (fL x)),by rw[dC];exact hx',cb _,cj _,hml⟩
  ·have hd:(aK x).length.ble 900000=true:=by rw[Nat.ble_eq];exact hx
   have h2:=rJ (show 1000000000≤y by omega)
   have hle:=cK (show y≤x by omega)
   refine⟨di ((aK x).length+1 - (aK y).length) (x / y),di (aK y).length (x % y),by simp only[ly,l8 hx',l8 hy',mc hb,mc hc,hd,cond_true,cond_false],gU _ _,fA _ _ ?_,by rw[dC];omega,gU _ _,fA _ _ (Nat.lt_trans hm (fL y)),by rw[dC];exact hy'⟩
   have h3:=fL x
   have h4:1000000000 ^ ((aK y).length - 1)≤y:=by
    rcases Nat.lt_or_ge y (1000000000 ^ ((aK y).length - 1)) with h | h
    ·have:=du h;omega
    ·exact h
   refine Nat.div_lt_of_lt_mul ?_
   refine Nat.lt_of_lt_of_le h3 (Nat.le_trans ?_ (Nat.mul_le_mul_right _ h4))
   rw[← Nat.pow_add]
   exact Nat.pow_le_pow_right (by omega) (by omega)
def L4:Lst:=[(167,jB),(166,ly),(165,Cy),(164,Bh),(97,ofF)]
theorem ai2:dw base.P L4:=⟨jf,xv,LS,Gq,mI,trivial⟩
theorem aaA:bu L4 167=fun a=>jB (aJ a):=rfl
theorem TW:bu L4 166=fun a=>ly (aJ a):=rfl
theorem aaz:bu L4 165=fun a=>Cy (aJ a):=rfl
theorem TV:bu L4 164=fun a=>Bh (aJ a):=rfl
theorem aib:bu L4 97=fun a=>ofF (aJ a):=rfl
theorem IZ (run:ar)(dr:Bool)(hp:List Blk)(r:List Nat)(hd:Dok r)(hr:r.length<1000000) :
  bX (CC L4) run dr hp 167 [aQ r]=some (aQ (aK (val r)),hp,⟨[],[],false,false⟩) :=
 bw vr aaA run dr hp _ [aQ (aK (val r))] rfl (by simp only[aJ,fP]) (by simp only[jB,dc hd hr,eX hd])
theorem Fz (run:ar)(dr:Bool)(hp:List Blk)(x y:Nat)(hx:(aK x).length≤900000)(hy:(aK y).length≤900000)(hy0:y≠0) :
  ∃ q r,bX (CC L4) run dr hp 166 [aQ (aK x),aQ (aK y)]=some (.tup [aQ q,aQ r],hp,⟨[],[],false,false⟩)∧Dok r∧val r=x % y∧r.length<1000000:=by
 obtain⟨q,r,h1,h2,h3,h4,h5,h6,h7⟩:=xx x y hx hy hy0
 exact⟨q,r,bw Dd TW run dr hp [aQ (aK x),aQ (aK y)] [aQ q,aQ r] (m5 hp _ _) (kK _ _) h1,h5,h6,h7⟩
theorem yt (run:ar)(dr:Bool)(hp:List Blk)(x:Nat)(hx:(aK x).length≤2) :
  bX (CC L4) run dr hp 165 [aQ (aK x)]=some (Ab.bz (Int.ofNat x),hp,⟨[],[],false,false⟩) :=
 bw YQ aaz run dr hp _ [Ab.bz (Int.ofNat x)] rfl (by simp only[aJ,fP]) (by
  have:(aK x).length.ble 2=true:=by rw[Nat.ble_eq];exact hx
  simp only[Cy,dc (cb x) (show (aK x).length<1000000 by omega),this,cond_true,cj])
theorem Fy (run:ar)(dr:Bool)(hp:List Blk)(x y:Nat) :
  bX (CC L4) run dr hp 164 [.sc (.int .i64 (x:Int)),.sc (.int .i64 (y:Int))]=some (.sc (.int .i64 ((Nat.gcd x y:Nat):Int)),hp,⟨[],[],false,false⟩) :=
 bw QZ TV run dr hp _ [Ab.bz (Int.ofNat (Nat.gcd x y))] rfl rfl rfl
theorem W6 (run:ar)(dr:Bool)(hp:List Blk)(x:Nat)(hx:x<9223372036854775808) :
  bX (CC L4) run dr hp 97 [.sc (.int .i64 (x:Int))]=some (bt (Int.ofNat x),hp,⟨[],[],false,false⟩) :=
 bw zF aib run dr hp _ [bt (Int.ofNat x)] rfl rfl (by
  have h1:decide (-9223372036854775808≤(x:Int))=true:=decide_eq_true (by omega)
  have h2:decide ((x:Int)<9223372036854775808)=true:=decide_eq_true (by omega)
  simp only[ofF,h1,h2,Bool.and_self,cond_true];rfl)
theorem Sm.le9 {z:Int}(h:Sm z):(aK z.natAbs).length≤900000:=Nat.le_of_lt (Nat.lt_trans h (by decide))
def ET:Code:=f150.body.getD .skip
def yV:Code:=((f150.body).bind aC).getD .skip
abbrev zW2:Blk:=⟨.live,[.sc (.bool false),.sc (.slice none 0 0)]⟩
theorem abV (L:Lst)(run:ar)(k:Nat)(fr:List PV)(hp:List Blk)(wr:List Nat)(h41:fr.length=41)(h6:nth fr 6=aQ []) :
  ∃ fr',af (CC L) run k yV ⟨fr,hp,wr⟩=some (.exit 0,⟨fr',hp,wr⟩)∧fr'.length=41∧nth fr' 4=nth fr 4∧nth fr' 5=nth fr 5:=by
 simp[yV,f150,aC,h41,h6]
set_option maxHeartbeats 1000000 in
theorem ON (run:ar)(k:Nat)(fr:List PV)(hp:List Blk)(wr:List Nat)(x y:Nat)(hx:(aK x).length≤900000)(hy:(aK y).length≤900000)(hy0:y≠0)(hns : ¬ ((aK x).length≤2∧(aK y).length≤2))
  (h41:fr.length=41) (h5:nth fr 5=aQ (aK x)) (h6:nth fr 6=aQ (aK y)) :
  ∃ fr',af (CC L4) run k yV ⟨fr,hp,wr⟩=some (.normal,⟨fr',hp,wr⟩)∧fr'.length=41∧nth fr' 4=nth fr 4∧nth fr' 5=aQ (aK y)∧nth fr' 6=aQ (aK (x % y)):=by
 obtain⟨q,rr,hc,hr1,hr2,hr3⟩:=Fz run false hp x y hx hy hy0
 have hc2:=fun dr=>IZ run dr hp rr hr1 hr3
 rw[hr2] at hc2
 have hp0:=(da (n:=y)).2 hy0
 have hne:aK y≠[]:=by intro e;rw[e] at hp0;simp at hp0
 generalize aK (x % y)=r at *
 generalize aK x=a at *
 generalize aK y=b at *
 by_cases h2:a.length≤2
 ·have h3 : ¬ (b.length≤2):=fun h=>hns ⟨h2,h⟩
  simp[yV,f150,aC,afV,h41,h5,h6,hp0,h2,h3,hc,hc2]
 ·simp[yV,f150,aC,afV,h41,h5,h6,hp0,h2,hc,hc2]
set_option maxHeartbeats 1000000 in
theorem abS (run:ar)(k:Nat)(fr:List PV)(b0 b1:Blk)(wr:List Nat)(x y:Nat)(hx:(aK x).length≤2)(hy:(aK y).length≤2)(hy0:y≠0)(h41:fr.length=41)(h4:nth fr 4 = .ptr 2 0)(h5:nth fr 5=aQ (aK x))(h6:nth fr 6=aQ (aK y)) :
  ∃ fr' wr',af (CC L4) run k yV ⟨fr,[b0,b1,zW2],wr⟩=some (.ret,⟨fr',[b0,b1,⟨.live,[.sc (.bool false),aQ (aK (Nat.gcd x y))]⟩],wr'⟩)∧nth fr' 4 = .ptr 2 0:=by
 have hc1:=fun dr=>yt run dr [b0,b1,zW2] x hx
 have hc2:=fun dr=>yt run dr [b0,b1,zW2] y hy
 have hc3:=fun dr=>Fy run dr [b0,b1,zW2] x y
 have hg:Nat.gcd x y<9223372036854775808:=by
  have h1:=fL y
  have h2:=Nat.pow_le_pow_right (n:=1000000000) (by omega) hy
  have h3:=Nat.gcd_le_right x (show 0<y by omega)
  have h4:1000000000 ^ 2<9223372036854775808:=by decide
  omega
 have hc4:=fun dr=>W6 run dr [b0,b1,zW2] (Nat.gcd x y) hg
 simp only[Ab.bz,Int.ofNat_eq_natCast] at hc1 hc2
 rw[show bt (Int.ofNat (Nat.gcd x y)) = .agg [.sc (.bool false),aQ (aK (Nat.gcd x y))] from rfl] at hc4
 have hp0:=(da (n:=y)).2 hy0
 have hne:aK y≠[]:=by intro e;rw[e] at hp0;simp at hp0
 generalize aK (Nat.gcd x y)=g at *
 generalize Nat.gcd x y=gg at *
 generalize aK x=a at *
 generalize aK y=b at *
 simp[yV,f150,aC,afV,h41,h4,h5,h6,hp0,hx,hy,hc1,hc2,hc3,hc4]
theorem ES (run:ar)(k:Nat)(b0 b1:Blk) :
  ∀ (n y x:Nat) (fr:List PV) (wr:List Nat),y<n→(aK x).length≤900000→(aK y).length≤900000→fr.length=41→nth fr 4 = .ptr 2 0→nth fr 5=aQ (aK x)→nth fr 6=aQ (aK y) →
  (∃ fr' wr',cu (af (CC L4) run k yV) n ⟨fr,[b0,b1,zW2],wr⟩=some (.exit 0,⟨fr',[b0,b1,zW2],wr'⟩)∧fr'.length=41∧nth fr' 4 = .ptr 2 0∧nth fr' 5=aQ (aK (Nat.gcd x y))) ∨
  (∃ fr' wr',cu (af (CC L4) run k yV) n ⟨fr,[b0,b1,zW2],wr⟩=some (.ret,⟨fr',[b0,b1,⟨.live,[.sc (.bool false),aQ (aK (Nat.gcd x y))]⟩],wr'⟩)∧nth fr' 4 = .ptr 2 0)
 | 0,y,x,fr,wr,hn,_,_,_,_,_,_=>by omega
 | n+1,y,x,fr,wr,hn,hx,hy,h41,h4,h5,h6=>by
  by_cases hy0:y=0
  ·subst hy0
   obtain⟨fr',g1,g2,g3,g4⟩:=abV L4 run k fr [b0,b1,zW2] wr h41 h6
   exact .inl ⟨fr',wr,bD g1,g2,by rw[g3,h4],by rw[g4,h5,Nat.gcd_zero_right]⟩
  ·by_cases hs:(aK x).length≤2∧(aK y).length≤2
   ·obtain⟨fr',wr',g1,g2⟩:=abS run k fr b0 b1 wr x y hs.1 hs.2 hy0 h41 h4 h5 h6
    exact .inr ⟨fr',wr',eM g1,g2⟩
   ·obtain⟨fr1,g1,g2,g3,g4,g5⟩:=ON run k fr [b0,b1,zW2] wr x y hx hy hy0 hs h41 h5 h6
    have hm:=Nat.mod_lt x (show 0<y by omega)
    have:=ES run k b0 b1 n (x % y) y fr1 wr (by omega) hy (Nat.le_trans (cK (Nat.le_of_lt hm)) hy) g2 (by rw[g3,h4]) g4 g5
    rw[ct g1]
    rw[Nat.gcd_comm y (x % y),← Nat.gcd_rec,Nat.gcd_comm y x] at this
    exact this
theorem AI:ah 2 ET = .seq (.block 0 (.loop yV)) (ah 3 ET):=rfl
theorem abU (L:Lst)(run:ar)(k:Nat)(na nb:Bool)(a b:List Nat) :
  ∃ fr wr,aX (CC L) run k 2 ET ⟨entry 41 [wh na a,wh nb b],[],[]⟩=some ⟨fr,[⟨.live,[.sc (.bool na),aQ a]⟩,⟨.live,[.sc (.bool nb),aQ b]⟩,zW2],wr⟩∧fr.length=41∧nth fr 4 = .ptr 2 0∧nth fr 5=aQ a∧nth fr 6=aQ b:=by
 obtain⟨e1,e2,e3⟩:=cn 39 (wh na a) (wh nb b)
 generalize entry 41 [wh na a,wh nb b]=fr0 at *
 have e4:∀ n l,wh n l = .agg [.sc (.bool n),aQ l]:=fun _ _=>rfl
 rw[e4] at e2 e3
 simp[ET,f150,aX,e1,e2,e3,bQ,sD,zW,aD,aM,number,FP.free,cH,FP.apart]
theorem Vx (L:Lst)(run:ar)(k:Nat)(fr:List PV)(b0 b1:Blk)(wr:List Nat)(a:List Nat)(h41:fr.length=41)(h4:nth fr 4 = .ptr 2 0)(h5:nth fr 5=aQ a) :
  ∃ st,af (CC L) run k (ah 3 ET) ⟨fr,[b0,b1,zW2],wr⟩=some (.ret,st)∧aU TT st.fr st.hp f150.results.toList=some [.agg [.sc (.bool false),aQ a]]:=by
 simp[ET,f150,yn,kJ,h41,h4,h5,fj,zW,sB,sD,dA,ky]
theorem abT (fr:List PV)(b0 b1:Blk)(a:List Nat)(h4:nth fr 4 = .ptr 2 0):aU TT fr [b0,b1,⟨.live,[.sc (.bool false),aQ a]⟩] f150.results.toList=some [.agg [.sc (.bool false),aQ a]]:=by
 simp[f150,h4]
def xX:List PV→Option (List PV)
 | [p,q]=>match fU p,fU q with
  | some x,some y=>some [bt (Int.ofNat (Nat.gcd x.natAbs y.natAbs))]
  | _,_=>none
 | _=>none
theorem rC:Ab.Spec base.P 150 xX:=Ab.Spec.bM (C:=CC L4) (cP ai2) fun args rs h=>by
 unfold xX at h
 split at h
 ·split at h
  ·rename_i x y ex ey
   obtain⟨rfl,hx⟩:=eB ex
   obtain⟨rfl,hy⟩:=eB ey
   simp only[OiE] at h
   subst h
   obtain⟨f1,wr1,p1,p2,p3,p4,p5⟩:=abU L4 (runK (CC L4) (y.natAbs+1)) (y.natAbs+1) (bA x) (bA y) (aK x.natAbs) (aK y.natAbs)
   rcases ES (runK (CC L4) (y.natAbs+1)) (y.natAbs+1) ⟨.live,[.sc (.bool (bA x)),aQ (aK x.natAbs)]⟩ ⟨.live,[.sc (.bool (bA y)),aQ (aK y.natAbs)]⟩ (y.natAbs+1) y.natAbs x.natAbs f1 wr1 (by omega) hx.le9 hy.le9 p2 p3 p4 p5 with ⟨f2,wr2,q1,q2,q3,q4⟩| ⟨f2,wr2,q1,q2⟩
   ·obtain⟨st,e1,e2⟩:=Vx L4 (runK (CC L4) (y.natAbs+1)) (y.natAbs+1) f2 _ _ wr2 _ q2 q3 q4
    have hx:af (CC L4) (runK (CC L4) (y.natAbs+1)) (y.natAbs+1) ET ⟨entry 41 [bt x,bt y],[],[]⟩=some (.ret,st):=by
     rw[bt,bt,aO 2 p1,AI,av (bN q1)]
     exact e1
    exact⟨y.natAbs+2,_,_,_,_,_,aP F4 rfl hx e2,jH _ (Int.ofNat (Nat.gcd x.natAbs y.natAbs)),Wk.refl rfl,trivial⟩
   ·have hx:af (CC L4) (runK (CC L4) (y.natAbs+1)) (y.natAbs+1) ET ⟨entry 41 [bt x,bt y],[],[]⟩=some (.ret,⟨f2,[⟨.live,[.sc (.bool (bA x)),aQ (aK x.natAbs)]⟩,⟨.live,[.sc (.bool (bA y)),aQ (aK y.natAbs)]⟩,⟨.live,[.sc (.bool false),aQ (aK (Nat.gcd x.natAbs y.natAbs))]⟩],wr2⟩):=by
     rw[bt,bt,aO 2 p1,AI,cC (df q1)]
    exact⟨y.natAbs+2,_,_,_,_,_,aP F4 rfl hx (abT f2 _ _ _ q2),jH _ (Int.ofNat (Nat.gcd x.natAbs y.natAbs)),Wk.refl rfl,trivial⟩
  ·cases h
 ·cases h
def L5:Lst:=[(166,ly),(152,fJ),(101,jE),(97,ofF),(168,Gj),(139,tw)]
theorem ai1:dw base.P L5:=⟨xv,jD,ki,mI,wc,oC,trivial⟩
theorem TU:bu L5 166=fun a=>ly (aJ a):=rfl
theorem Od:bu L5 152=fun a=>fJ (aJ a):=rfl
theorem aay:bu L5 101=fun a=>jE (aJ a):=rfl
theorem aia:bu L5 97=fun a=>ofF (aJ a):=rfl
theorem aeU:bu L5 168=fun a=>Gj (aJ a):=rfl
theorem aeV:bu L5 139=fun a=>tw (aJ a):=rfl
theorem Fx (run:ar)(dr:Bool)(x y:Nat)(hx:(aK x).length≤900000)(hy:(aK y).length≤900000)(hy0:y≠0) :
  ∃ q r,(∀ hp,bX (CC L5) run dr hp 166 [aQ (aK x),aQ (aK y)]=some (.tup [aQ q,aQ r],hp,⟨[],[],false,false⟩))∧Dok q∧val q=x / y∧q.length<1000000∧Dok r∧val r=x % y∧r.length<1000000:=by
 obtain⟨q,r,h1,h2⟩:=xx x y hx hy hy0
 exact⟨q,r,fun hp=>bw Dd TU run dr hp [aQ (aK x),aQ (aK y)] [aQ q,aQ r] (m5 hp _ _) (kK _ _) h1,h2⟩
theorem rW (run:ar)(dr:Bool)(hp:List Blk)(n:Bool)(l:List Nat)(hd:Dok l)(hl:l.length<1000000) :
  bX (CC L5) run dr hp 152 [.sc (.bool n),aQ l]=some (bt (sgn n (val l)),hp,⟨[],[],false,false⟩) :=
 bw oO Od run dr hp _ [bt (sgn n (val l))] (LA hp n l) (Fu n l) (by simp only[fJ,dc hd hl])
theorem IY (run:ar)(dr:Bool)(hp:List Blk)(x:Int)(hx:Sm x):bX (CC L5) run dr hp 101 [bt x]=some (Ab.bz x.sign,hp,⟨[],[],false,false⟩) :=
 bw vt aay run dr hp _ [Ab.bz x.sign] (m4 hp x) (kb x) (by simp only[jE,cM hx])
theorem W5 (run:ar)(dr:Bool)(hp:List Blk):bX (CC L5) run dr hp 97 [.sc (.int .i64 1)]=some (bt 1,hp,⟨[],[],false,false⟩) :=
 bw zF aia run dr hp _ [bt 1] rfl rfl rfl
theorem Pl (run:ar)(dr:Bool)(hp:List Blk)(x y:Int)(hx:Sm x)(hy:Sm y):bX (CC L5) run dr hp 168 [bt x,bt y]=some (bt (x - y),hp,⟨[],[],false,false⟩) :=
 bw ad8 aeU run dr hp _ [bt (x - y)] (gk hp x y) (fq x y) (by simp only[Gj,cM hx,cM hy])
theorem Pm (run:ar)(dr:Bool)(hp:List Blk)(x y:Int)(hx:Sm x)(hy:Sm y):bX (CC L5) run dr hp 139 [bt x,bt y]=some (bt (x+y),hp,⟨[],[],false,false⟩) :=
 bw GS aeV run dr hp _ [bt (x+y)] (gk hp x y) (fq x y) (by simp only[tw,cM hx,cM hy])
def divC:Code:=f151.body.getD .skip
def yg (x y:Int):Bool := !(x.natAbs % y.natAbs).beq 0 && (bA x != bA y)
def mV (x y:Int):Int:=bif yg x y then sgn (bA x != bA y) (x.natAbs / y.natAbs) - 1 else sgn (bA x != bA y) (x.natAbs / y.natAbs)
def B0 (x y:Int):Int:=bif yg x y then sgn (bA x) (x.natAbs % y.natAbs)+y else sgn (bA x) (x.natAbs % y.natAbs)
theorem Sm.of_le {x y:Int}(h:Sm y)(hl:x.natAbs≤y.natAbs):Sm x:=Nat.lt_of_le_of_lt (cK hl) h
theorem wE (n:Bool)(v:Nat):(sgn n v).natAbs=v:=by
 rw[sw];cases n <;> simp
set_option maxHeartbeats 4000000 in
theorem acy (run:ar)(k:Nat)(nx ny nq nr:Bool)(a b qd rd qq rr:List Nat)
  (hc1:∀ hp,bX (CC L5) run false hp 166 [aQ a,aQ b]=some (.tup [aQ qd,aQ rd],hp,⟨[],[],false,false⟩))
  (hc2:∀ dr hp,bX (CC L5) run dr hp 152 [.sc (.bool (nx != ny)),aQ qd]=some (.agg [.sc (.bool nq),aQ qq],hp,⟨[],[],false,false⟩))
  (hc3:∀ dr hp,bX (CC L5) run dr hp 152 [.sc (.bool nx),aQ rd]=some (.agg [.sc (.bool nr),aQ rr],hp,⟨[],[],false,false⟩)) :
  ∃ fr wr,aX (CC L5) run k 3 divC ⟨entry 45 [wh nx a,wh ny b],[],[]⟩=some ⟨fr,[⟨.live,[.sc (.bool nx),aQ a]⟩,⟨.live,[.sc (.bool ny),aQ b]⟩,⟨.live,[.sc (.bool nq),aQ qq]⟩,⟨.live,[.sc (.bool nr),aQ rr]⟩],wr⟩∧fr.length=45∧nth fr 2 = .ptr 0 0∧nth fr 3 = .ptr 1 0∧nth fr 4 = .ptr 2 0∧nth fr 5 = .ptr 3 0:=by
 obtain⟨e1,e2,e3⟩:=cn 43 (wh nx a) (wh ny b)
 generalize entry 45 [wh nx a,wh ny b]=fr0 at *
 have e4:∀ n l,wh n l = .agg [.sc (.bool n),aQ l]:=fun _ _=>rfl
 rw[e4] at e2 e3
 cases nx <;> cases ny <;> simp only[bne_self_eq_false,Bool.bne_true,Bool.bne_false,Bool.not_false] at hc2 <;>
 simp[divC,f151,aX,e1,e2,e3,dT,bQ,hc1,hc2,hc3,uB,sB,sD,zW,aB,aD,aM,number,FP.free,cH,FP.apart]
def lv:Code→Array Oper
 | .region _ ops _=>ops
 | .cond _ a _=>lv a
 | _=>#[]
def rI:Code:=seq1 (ah 3 divC)
theorem AR:ah 3 divC = .seq rI (ah 4 divC):=rfl
set_option maxHeartbeats 4000000 in
theorem V7 (run:ar)(k:Nat)(fr:List PV)(wr:List Nat)(nx ny nq nr:Bool)(a b qq rr:List Nat)(s:Int)(hne:s=0∨nx=ny)
  (hc4:∀ dr hp,bX (CC L5) run dr hp 101 [.agg [.sc (.bool nr),aQ rr]]=some (.sc (.int .i64 s),hp,⟨[],[],false,false⟩))
  (h45:fr.length=45) (h2:nth fr 2 = .ptr 0 0) (h3:nth fr 3 = .ptr 1 0) (h4:nth fr 4 = .ptr 2 0) (h5:nth fr 5 = .ptr 3 0) :
  ∃ fr' wr',af (CC L5) run k rI ⟨fr,[⟨.live,[.sc (.bool nx),aQ a]⟩,⟨.live,[.sc (.bool ny),aQ b]⟩,⟨.live,[.sc (.bool nq),aQ qq]⟩,⟨.live,[.sc (.bool nr),aQ rr]⟩],wr⟩=some (.normal,⟨fr',[⟨.live,[.sc (.bool nx),aQ a]⟩,⟨.live,[.sc (.bool ny),aQ b]⟩,⟨.live,[.sc (.bool nq),aQ qq]⟩,⟨.live,[.sc (.bool nr),aQ rr]⟩],wr'⟩)∧fr'.length=45∧nth fr' 4 = .ptr 2 0∧nth fr' 5 = .ptr 3 0:=by
 by_cases hs:s=0
 ·subst hs
  simp[rI,divC,f151,seq1,h45,h4,h5,hc4]
 ·have hn:nx=ny:=by rcases hne with h | h;exact absurd h hs;exact h
  subst hn
  have hs2:(s != 0)=true:=by simpa using hs
  cases nx <;> simp[rI,divC,f151,seq1,h45,h2,h3,h4,h5,dT,bQ,hc4,hs2,uB,sB,aB]
theorem agA:((Region.before (lv (cw rI)))[6]?.getD 0).testBit 0=true:=by kernel_rfl
theorem agz:((Region.before (lv (cw rI)))[7]?.getD 0).testBit 3=true:=by kernel_rfl
theorem agy:((Region.before (lv (seq1 (ah 4 divC))))[2]?.getD 0).testBit 0=true:=by kernel_rfl
theorem agx:((Region.before (lv (seq1 (ah 4 divC))))[3]?.getD 0).testBit 1=true:=by kernel_rfl
set_option maxHeartbeats 4000000 in
theorem V6 (run:ar)(k:Nat)(fr:List PV)(wr:List Nat)(nx nq nr nq2 nr2:Bool)(a b qq rr qq2 rr2 one:List Nat)(s:Int)(hs:s≠0)
  (hc4:∀ dr hp,bX (CC L5) run dr hp 101 [.agg [.sc (.bool nr),aQ rr]]=some (.sc (.int .i64 s),hp,⟨[],[],false,false⟩))
  (hc5:∀ dr hp,bX (CC L5) run dr hp 97 [.sc (.int .i64 1)]=some (.agg [.sc (.bool false),aQ one],hp,⟨[],[],false,false⟩))
  (hc6:∀ dr hp,bX (CC L5) run dr hp 168 [.agg [.sc (.bool nq),aQ qq],.agg [.sc (.bool false),aQ one]]=some (.agg [.sc (.bool nq2),aQ qq2],hp,⟨[],[],false,false⟩))
  (hc7:∀ dr hp,bX (CC L5) run dr hp 139 [.agg [.sc (.bool nr),aQ rr],.agg [.sc (.bool (!nx)),aQ b]]=some (.agg [.sc (.bool nr2),aQ rr2],hp,⟨[],[],false,false⟩))
  (h45:fr.length=45) (h2:nth fr 2 = .ptr 0 0) (h3:nth fr 3 = .ptr 1 0) (h4:nth fr 4 = .ptr 2 0) (h5:nth fr 5 = .ptr 3 0) :
  ∃ fr' wr',af (CC L5) run k rI ⟨fr,[⟨.live,[.sc (.bool nx),aQ a]⟩,⟨.live,[.sc (.bool (!nx)),aQ b]⟩,⟨.live,[.sc (.bool nq),aQ qq]⟩,⟨.live,[.sc (.bool nr),aQ rr]⟩],wr⟩=some (.normal,⟨fr',[⟨.live,[.sc (.bool nx),aQ a]⟩,⟨.live,[.sc (.bool (!nx)),aQ b]⟩,⟨.live,[.sc (.bool nq2),aQ qq2]⟩,⟨.live,[.sc (.bool nr2),aQ rr2]⟩],wr'⟩)∧fr'.length=45∧nth fr' 4 = .ptr 2 0∧nth fr' 5 = .ptr 3 0:=by
 have hs2:(s != 0)=true:=by simpa using hs
 have hb1:=agA
 have hb2:=agz
 simp only[rI,divC,f151,seq1,cw,ah,lv,Option.getD_some] at hb1 hb2
 cases nx <;> simp only[Bool.not_true,Bool.not_false] at hc7 ⊢ <;> simp[-Nat.testBit_zero,hb1,hb2,rI,divC,f151,seq1,h45,h2,h3,h4,h5,dT,bQ,hc4,hc5,hc6,hc7,hs2,uB,sB,aB,number,FP.free,cH,FP.apart]
set_option maxHeartbeats 4000000 in
theorem E9 (L:Lst)(run:ar)(k:Nat)(fr:List PV)(wr:List Nat)(b0 b1:Blk)(nq nr:Bool)(qq rr:List Nat)(h45:fr.length=45)(h4:nth fr 4 = .ptr 2 0)(h5:nth fr 5 = .ptr 3 0) :
  ∃ st,af (CC L) run k (ah 4 divC) ⟨fr,[b0,b1,⟨.live,[.sc (.bool nq),aQ qq]⟩,⟨.live,[.sc (.bool nr),aQ rr]⟩],wr⟩=some (.ret,st)∧aU TT st.fr st.hp f151.results.toList=some [.agg [.sc (.bool nq),aQ qq],.agg [.sc (.bool nr),aQ rr]]:=by
 have hb1:=agy
 have hb2:=agx
 simp only[divC,f151,seq1,ah,lv,Option.getD_some] at hb1 hb2
 simp[-Nat.testBit_zero,hb1,hb2,divC,f151,h45,h4,h5,number,FP.free,cH,FP.apart]
theorem RD (n:Bool):sgn n 0=0:=by cases n <;> rfl
theorem QX {n:Bool}{v:Nat}(h:v≠0):(sgn n v).sign≠0:=by
 intro h'
 have h2:=Int.sign_eq_zero_iff_zero.1 h'
 rw[sw] at h2
 cases n <;> simp at h2 <;> omega
theorem V8 (run:ar)(k:Nat)(x y:Int)(hx:Sm x)(hy:Sm y)(hy0:y.natAbs≠0) :
  ∃ st,af (CC L5) run k divC ⟨entry 45 [bt x,bt y],[],[]⟩=some (.ret,st)∧aU TT st.fr st.hp f151.results.toList=some [bt (mV x y),bt (B0 x y)]:=by
 obtain⟨q,rd,hc1,hq1,hq2,hq3,hr1,hr2,hr3⟩:=Fx run false x.natAbs y.natAbs hx.le9 hy.le9 hy0
 have hm:=Nat.mod_lt x.natAbs (show 0<y.natAbs by omega)
 have hc2:=fun dr hp=>rW run dr hp (bA x != bA y) q hq1 hq3
 have hc3:=fun dr hp=>rW run dr hp (bA x) rd hr1 hr3
 rw[hq2] at hc2
 rw[hr2] at hc3
 have hRS:Sm (sgn (bA x) (x.natAbs % y.natAbs)):=hy.of_le (by rw[wE];omega)
 have hQS:Sm (sgn (bA x != bA y) (x.natAbs / y.natAbs)):=hx.of_le (by rw[wE];exact Nat.div_le_self _ _)
 have hc4:=fun dr hp=>IY run dr hp _ hRS
 have hsg:x.natAbs % y.natAbs≠0→(sgn (bA x) (x.natAbs % y.natAbs)).sign≠0:=fun h=>QX h
 have hsg0:x.natAbs % y.natAbs=0→(sgn (bA x) (x.natAbs % y.natAbs)).sign=0:=fun h=>by rw[h,RD];rfl
 obtain⟨Q,hQ⟩:∃ Q,Q=sgn (bA x != bA y) (x.natAbs / y.natAbs):=⟨_,rfl⟩
 obtain⟨R,hR⟩:∃ R,R=sgn (bA x) (x.natAbs % y.natAbs):=⟨_,rfl⟩
 have hdq:mV x y=bif yg x y then Q - 1 else Q:=by rw[hQ];rfl
 have hdr:B0 x y=bif yg x y then R+y else R:=by rw[hR];rfl
 rw[hdq,hdr]
 rw[← hQ] at hc2 hQS
 rw[← hR] at hc3 hc4 hRS hsg hsg0
 simp only[whW,Ab.bz] at hc2 hc3 hc4
 obtain⟨f1,wr1,p1,p2,p3,p4,p5,p6⟩:=acy run k (bA x) (bA y) (bA Q) (bA R) (aK x.natAbs) (aK y.natAbs) q rd (aK Q.natAbs) (aK R.natAbs) hc1 hc2 hc3
 by_cases hd:x.natAbs % y.natAbs≠0∧bA x≠bA y
 ·have hA:yg x y=true:=by
   have h1:(x.natAbs % y.natAbs).beq 0=false:=by
    cases e:x.natAbs % y.natAbs with
    | zero=>exact absurd e hd.1
    | succ n=>rfl
   have h2:(bA x != bA y)=true:=by simpa using hd.2
   simp[yg,h1,h2]
  have hn:bA y = !bA x:=by
   revert hd;cases bA x <;> cases bA y <;> simp
  have hc5:=fun dr hp=>W5 run dr hp
  have hc6:=fun dr hp=>Pl run dr hp Q 1 hQS (show Sm 1 by unfold Sm;decide)
  have hc7:=fun dr hp=>Pm run dr hp R y hRS hy
  rw[hA]
  simp only[cond_true]
  simp only[whW] at hc5 hc6 hc7
  rw[show bA (1:Int)=false from rfl] at hc5 hc6
  rw[hn] at hc7 p1
  obtain⟨f2,wr2,q1,q2,q3,q4⟩:=V6 run k f1 wr1 (bA x) (bA Q) (bA R) (bA (Q - 1)) (bA (R+y)) (aK x.natAbs) (aK y.natAbs) (aK Q.natAbs) (aK R.natAbs) (aK (Q - 1).natAbs) (aK (R+y).natAbs) (aK (1:Int).natAbs) R.sign (hsg hd.1) hc4 hc5 hc6 hc7 p2 p3 p4 p5 p6
  obtain⟨st,e1,e2⟩:=E9 L5 run k f2 wr2 ⟨.live,[.sc (.bool (bA x)),aQ (aK x.natAbs)]⟩ ⟨.live,[.sc (.bool (!bA x)),aQ (aK y.natAbs)]⟩ (bA (Q - 1)) (bA (R+y)) (aK (Q - 1).natAbs) (aK (R+y).natAbs) q2 q3 q4
  refine⟨st,?_,e2⟩
  rw[bt,bt,hn,aO 3 p1,AR,av q1]
  exact e1
 ·have hA:yg x y=false:=by
   by_cases h0:x.natAbs % y.natAbs=0
   ·simp[yg,h0]
   ·have h2:bA x=bA y:=by
     refine Classical.byContradiction fun h3=>hd ⟨h0,h3⟩
    simp[yg,h2]
  have hne:R.sign=0∨bA x=bA y:=by
   by_cases h0:x.natAbs % y.natAbs=0
   ·exact .inl (hsg0 h0)
   ·exact .inr (Classical.byContradiction fun h3=>hd ⟨h0,h3⟩)
  rw[hA]
  simp only[cond_false]
  obtain⟨f2,wr2,q1,q2,q3,q4⟩:=V7 run k f1 wr1 (bA x) (bA y) (bA Q) (bA R) (aK x.natAbs) (aK y.natAbs) (aK Q.natAbs) (aK R.natAbs) R.sign hne hc4 p2 p3 p4 p5 p6
  obtain⟨st,e1,e2⟩:=E9 L5 run k f2 wr2 ⟨.live,[.sc (.bool (bA x)),aQ (aK x.natAbs)]⟩ ⟨.live,[.sc (.bool (bA y)),aQ (aK y.natAbs)]⟩ (bA Q) (bA R) (aK Q.natAbs) (aK R.natAbs) q2 q3 q4
  refine⟨st,?_,e2⟩
  rw[bt,bt,aO 3 p1,AR,av q1]
  exact e1
def V9:List PV→Option (List PV)
 | [p,q]=>match fU p,fU q with
  | some x,some y=>bif !(y.natAbs.beq 0) then some [bt (mV x y),bt (B0 x y)] else none
  | _,_=>none
 | _=>none
theorem aeJ (hp:List Blk)(x y:Int):bq (snap hp bn) [bt x,bt y]=some ([bt x,bt y],[]):=rfl
theorem V5:Ab.Spec base.P 151 V9:=Ab.Spec.bM (C:=CC L5) (cP ai1) fun args rs h=>by
 unfold V9 at h
 split at h
 ·split at h
  ·rename_i x y ex ey
   obtain⟨rfl,hx⟩:=eB ex
   obtain⟨rfl,hy⟩:=eB ey
   by_cases hy0:y.natAbs=0
   ·rw[hy0] at h;simp at h
   ·rw[kN hy0] at h
    simp only[Bool.not_false,cond_true,OiE] at h
    subst h
    obtain⟨st,e1,e2⟩:=V8 (runK (CC L5) 1) 1 x y hx hy hy0
    exact⟨2,_,_,_,_,_,aP F5 rfl e1 e2,aeJ _ _ _,Wk.refl rfl,Wk.refl rfl,trivial⟩
  ·cases h
 ·cases h
end Go.Proofs.YtjdmodeenbdfpaaGreat
end
