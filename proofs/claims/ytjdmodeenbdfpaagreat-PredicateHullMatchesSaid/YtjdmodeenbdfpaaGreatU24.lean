/- Contracts of num's integers, part 24; each lemma states its conditions. -/
import Derived.Test.YtjdmodeenbdfpaaGreatU21
import Derived.Test.YtjdmodeenbdfpaaGreatU23
set_option linter.unusedSimpArgs false
set_option linter.unusedVariables false
noncomputable section
namespace Go.Proofs.YtjdmodeenbdfpaaGreat
open Go Go.Ab Tryz
attribute [local simp] FzZ aC aF aG aH aM aV aW aX aY aa ab ae af ag ah ai aj an and_assoc aq ar au aw b9 bF bH bM ba bf bg bj bp bz cF cf cl partOf sW uD uW wf0 wf1
def A0 (p:PV):Option Nat:=match gU p with
 | some l=>bif uP l then some (val l) else none
 | none=>none
theorem yi {p:PV}{n:Nat}(h:A0 p=some n):p=aL (aJ n)∧(aJ n).length<1000000:=by
 unfold A0 at h
 split at h
 ·rename_i l e
  obtain⟨h1,h2,h3⟩:=dy e
  cases ht:uP l with
  | false=>rw[ht] at h;cases h
  | true =>
   rw[ht] at h
   simp at h;subst h
   rw[ke h2 (m9 ht)]
   exact⟨h1,h3⟩
 ·cases h
theorem lM {n:Nat}(h:(aJ n).length<1000000):A0 (aL (aJ n))=some n:=by
 simp[A0,cZ (bV n) h,qu (jx n),bX]
def L3:Lst:=[(167,jo),(146,tG),(181,nf),(182,ES)]
theorem ajB:dt base.P L3:=⟨iV,zv,wi,OP,trivial⟩
theorem abj:bC L3 146=fun a=>tG (aK a):=rfl
theorem UA:bC L3 181=fun a=>nf (aK a):=rfl
theorem abk:bC L3 182=fun a=>ES (aK a):=rfl
theorem rH {y:Nat}(h:1000000000≤y):2≤(aJ y).length:=by
 rcases Nat.lt_or_ge (aJ y).length 2 with h2 | h2
 ·have h3:=fA y
  have h4:(1000000000:Nat) ^ (aJ y).length≤1000000000 ^ 1:=Nat.pow_le_pow_right (by omega) (by omega)
  omega
 ·exact h2
theorem Js (run:av)(dr:Bool)(hp:Θ)(x y:Nat)(hx:(aJ x).length≤900000)(hy:1000000000≤y)(hxy:y≤x) :
  bS (CC L3) run dr hp 182 [aL (aJ x),aL (aJ y)]=some (.tup [aL (db ((aJ x).length+1 - (aJ y).length) (x / y)),aL (db (aJ y).length (x % y))],hp,⟨[],[],false,false⟩):=by
 have h1:=rH hy
 have h2:=cw hxy
 have h3:Nat.ble 2 (aJ y).length=true:=Nat.ble_eq ▸ h1
 have h4:Nat.ble (aJ y).length (aJ x).length=true:=Nat.ble_eq ▸ h2
 have h5:Nat.ble (aJ x).length 900000=true:=Nat.ble_eq ▸ hx
 exact bq Y5 abk run dr hp _ [aL (db ((aJ x).length+1 - (aJ y).length) (x / y)),aL (db (aJ y).length (x % y))] (mN hp _ _) (kg _ _)
  (by simp only[ES,cZ (bV x) (show (aJ x).length<1000000 by omega),cZ (bV y) (show (aJ y).length<1000000 by omega),qu (jx y),h3,h4,h5,Bool.and_self,cond_true,bX])
theorem pZ (run:av)(dr:Bool)(hp:Θ)(x y:Nat)(hx:(aJ x).length<1000000)(hy:(aJ y).length<1000000) :
  bS (CC L3) run dr hp 146 [aL (aJ x),aL (aJ y)]=some (Ab.bJ (dR x y),hp,⟨[],[],false,false⟩) :=
 bq KG abj run dr hp _ [Ab.bJ (dR x y)] (mN hp _ _) (kg _ _) (by simp only[tG,cZ (bV _) hx,cZ (bV _) hy,lV])
theorem FU (run:av)(dr:Bool)(hp:Θ)(x b:Nat)(hx:(aJ x).length<1000000)(hb:0<b)(hb2:b<1000000000) :
  bS (CC L3) run dr hp 181 [aL (aJ x),dg b]=some (.tup [aL (db (aJ x).length (x / b)),dg (x % b)],hp,⟨[],[],false,false⟩):=by
 obtain⟨b,rfl⟩:∃ c,b=c+1:=⟨b - 1,by omega⟩
 exact bq De UA run dr hp [aL (aJ x),dg (b+1)] [aL (db (aJ x).length (x / (b+1))),dg (x % (b+1))] rfl (by simp only[aK,fF];rfl) (by simp only[nf,cZ (bV _) hx,Wx hb2,bX])
theorem Jr (run:av)(dr:Bool)(hp:Θ)(r:Nat)(hr:r<1000000000) :
  bS (CC L3) run dr hp 167 [.imm 1 true [dg r]]=some (aL (aJ r),hp,⟨[],[],false,false⟩):=by
 have h3:(CC L3).orc 167 [.imm 1 true [dg r]]=some [aL (aJ r)]:=by
  show jo (aK [.imm 1 true [dg r]])=_
  have h1:aK [.imm 1 true [dg r]]=[aL [r]]:=rfl
  have h2:Dok [r]:=Dok.nil.cons hr
  rw[h1]
  simp only[jo,cZ h2 (by simp),eA h2]
  simp[val]
 have h4:bu (snap hp bn) [.imm 1 true [dg r]]=some ([.imm 1 true [dg r]],[]):=rfl
 exact eI vg h4 h3 rfl
def sV:Code:=f166.body.getD .skip
theorem Ek (run:av)(k:Nat)(x y:Nat)(hx:(aJ x).length<1000000)(hy:(aJ y).length<1000000)(hxy:x<y) :
  ∃ st,ae (CC L3) run k sV ⟨entry 35 [aL (aJ x),aL (aJ y)],[],[]⟩=some (.ret,st)∧aY TT st.fr st.hp f166.results.toList=some [.sc (.slice none 0 0),aL (aJ x)]:=by
 have hc:=fun hp dr=>pZ run dr hp x y hx hy
 rw[dR,if_pos hxy] at hc
 simp only[Ab.bJ] at hc
 obtain⟨e1,e2,e3⟩:=cb 33 (aL (aJ x)) (aL (aJ y))
 generalize entry 35 [aL (aJ x),aL (aJ y)]=fr0 at *
 generalize aJ x=a at *
 generalize aJ y=b at *
 simp[sV,f166,e1,e2,e3,hc]
theorem nY {y:Nat}(h:0<y)(h2:y<1000000000):aJ y=[y]:=by
 rw[dW (by omega),Nat.mod_eq_of_lt h2,Nat.div_eq_of_lt h2,fq]
set_option maxHeartbeats 1000000 in
theorem Ej (run:av)(k:Nat)(x y:Nat)(hx:(aJ x).length<1000000)(hy0:0<y)(hy:y<1000000000)(hxy:y≤x) :
  ∃ st,ae (CC L3) run k sV ⟨entry 35 [aL (aJ x),aL (aJ y)],[],[]⟩=some (.ret,st)∧aY TT st.fr st.hp f166.results.toList=some [aL (db (aJ x).length (x / y)),aL (aJ (x % y))]:=by
 have hly:(aJ y).length<1000000:=by rw[nY hy0 hy];simp
 have hc:=fun hp dr=>pZ run dr hp x y hx hly
 have hcz : ¬ (dR x y<0):=by
  unfold dR
  rw[if_neg (by omega)]
  by_cases h:x=y
  ·rw[if_pos h];omega
  ·rw[if_neg h];omega
 have hc2:=fun hp dr=>FU run dr hp x y hx hy0 hy
 have hc3:=fun hp dr=>Jr run dr hp (x % y) (Nat.lt_trans (Nat.mod_lt _ hy0) hy)
 rw[nY hy0 hy] at hc ⊢
 simp only[Ab.bJ] at hc
 obtain⟨e1,e2,e3⟩:=cb 33 (aL (aJ x)) (aL [y])
 generalize entry 35 [aL (aJ x),aL [y]]=fr0 at *
 generalize aJ (x % y)=rr at *
 generalize db (aJ x).length (x / y)=qq at *
 generalize aJ x=a at *
 generalize dR x y=cc at *
 generalize x % y=r at *
 have e4:aL [y] = .imm 1 false [dg y]:=rfl
 rw[e4] at hc e3
 simp[sV,f166,bc,jQ,cR,e1,e2,e3,hc,hc2,hc3,hcz,s32,a32,nS,jF]
set_option maxHeartbeats 1000000 in
theorem Ei (run:av)(k:Nat)(x y:Nat)(hx:(aJ x).length≤900000)(hy:1000000000≤y)(hxy:y≤x) :
  ∃ st,ae (CC L3) run k sV ⟨entry 35 [aL (aJ x),aL (aJ y)],[],[]⟩=some (.ret,st)∧aY TT st.fr st.hp f166.results.toList=some [aL (db ((aJ x).length+1 - (aJ y).length) (x / y)),aL (db (aJ y).length (x % y))]:=by
 have hly:(aJ y).length<1000000:=Nat.lt_of_le_of_lt (cw hxy) (by omega)
 have hc:=fun hp dr=>pZ run dr hp x y (by omega) hly
 have hcz : ¬ (dR x y<0):=by
  unfold dR
  rw[if_neg (by omega)]
  by_cases h:x=y
  ·rw[if_pos h];omega
  ·rw[if_neg h];omega
 have hc2:=fun hp dr=>Js run dr hp x y hx hy hxy
 have hl1:(((aJ y).length:Int) == 1)=false:=by rw[beq_eq_false_iff_ne];have:=rH hy;omega
 simp only[Ab.bJ] at hc
 obtain⟨e1,e2,e3⟩:=cb 33 (aL (aJ x)) (aL (aJ y))
 generalize entry 35 [aL (aJ x),aL (aJ y)]=fr0 at *
 generalize db ((aJ x).length+1 - (aJ y).length) (x / y)=qq at *
 generalize db (aJ y).length (x % y)=rr at *
 generalize aJ x=a at *
 generalize aJ y=b at *
 generalize dR x y=cc at *
 simp[sV,f166,e1,e2,e3,hc,hc2,hcz,hl1]
def kV:Ψ→Option Ψ
 | [p,q]=>match A0 p,A0 q with
  | some x,some y=>bif x.blt y then some [aL [],aL (aJ x)] else bif y.blt 1000000000 then (bif y.beq 0 then none else some [aL (db (aJ x).length (x / y)),aL (aJ (x % y))]) else
    bif (aJ x).length.ble 900000 then some [aL (db ((aJ x).length+1 - (aJ y).length) (x / y)),aL (db (aJ y).length (x % y))] else none
  | _,_=>none
 | _=>none
theorem lR {x y:Nat}(h : ¬ x<y):x.blt y=false:=by
 cases e:x.blt y with
 | false=>rfl
 | true=>rw[Nat.blt_eq] at e;exact absurd e h
theorem kl {y:Nat}(h:y≠0):y.beq 0=false:=by
 cases y with
 | zero=>exact absurd rfl h
 | succ y=>rfl
theorem xn:Ab.Spec base.P 166 kV:=Ab.Spec.bL (C:=CC L3) (cP ajB) fun args rs h=>by
 unfold kV at h
 split at h
 ·split at h
  ·rename_i x y ex ey
   obtain⟨rfl,hx⟩:=yi ex
   obtain⟨rfl,hy⟩:=yi ey
   by_cases hb:x<y
   ·have hb':x.blt y=true:=by rw[Nat.blt_eq];exact hb
    rw[hb'] at h
    simp only[cond_true,OiE] at h
    subst h
    obtain⟨st,e1,e2⟩:=Ek (runK (CC L3) 1) 1 x y hx hy hb
    exact⟨2,_,_,_,[.sc (.slice none 0 0),aL (aJ x)],[],aZ qf rfl e1 e2,rfl,Wk.nil false,Wk.refl rfl,trivial⟩
   ·rw[lR hb] at h
    by_cases hc:y<1000000000
    ·have hc':y.blt 1000000000=true:=by rw[Nat.blt_eq];exact hc
     rw[hc'] at h
     by_cases hy0:y=0
     ·subst hy0
      simp at h
     ·rw[kl hy0] at h
      simp only[cond_true,cond_false,OiE] at h
      subst h
      obtain⟨st,e1,e2⟩:=Ej (runK (CC L3) 1) 1 x y hx (by omega) hc (by omega)
      exact⟨2,_,_,_,_,_,aZ qf rfl e1 e2,rfl,Wk.refl rfl,Wk.refl rfl,trivial⟩
    ·rw[lR hc] at h
     cases hd:(aJ x).length.ble 900000 with
     | false=>rw[hd] at h;simp at h
     | true =>
      rw[hd] at h
      simp only[cond_true,cond_false,OiE] at h
      subst h
      obtain⟨st,e1,e2⟩:=Ei (runK (CC L3) 1) 1 x y (by rw[Nat.ble_eq] at hd;exact hd) (by omega) (by omega)
      exact⟨2,_,_,_,_,_,aZ qf rfl e1 e2,rfl,Wk.refl rfl,Wk.refl rfl,trivial⟩
  ·cases h
 ·cases h
theorem xq (x y:Nat)(hx:(aJ x).length≤900000)(hy:(aJ y).length≤900000)(hy0:y≠0) :
  ∃ q r,kV [aL (aJ x),aL (aJ y)]=some [aL q,aL r]∧Dok q∧val q=x / y∧q.length<1000000∧Dok r∧val r=x % y∧r.length<1000000:=by
 have hx':(aJ x).length<1000000:=by omega
 have hy':(aJ y).length<1000000:=by omega
 have hm:=Nat.mod_lt x (show 0<y by omega)
 have hml:(aJ (x % y)).length<1000000:=Nat.lt_of_le_of_lt (cw (Nat.le_of_lt hm)) hy'
 by_cases hb:x<y
 ·have hb':x.blt y=true:=by rw[Nat.blt_eq];exact hb
  exact⟨[],aJ x,by simp only[kV,lM hx',lM hy',hb',cond_true],Dok.nil,by rw[Nat.div_eq_of_lt hb];rfl,by simp,bV _,by rw[bX,Nat.mod_eq_of_lt hb],hx'⟩
 ·by_cases hc:y<1000000000
  ·have hc':y.blt 1000000000=true:=by rw[Nat.blt_eq];exact hc
   exact⟨_,_,by simp only[kV,lM hx',lM hy',lR hb,hc',kl hy0,cond_true,cond_false],gn _ _,fj _ _ (Nat.lt_of_le_of_lt (Nat.div_le_self x y) (fA x)),by rw[dq];exact hx',bV _,bX _,hml⟩
  ·have hd:(aJ x).length.ble 900000=true:=by rw[Nat.ble_eq];exact hx
   have h2:=rH (show 1000000000≤y by omega)
   have hle:=cw (show y≤x by omega)
   refine⟨db ((aJ x).length+1 - (aJ y).length) (x / y),db (aJ y).length (x % y),by simp only[kV,lM hx',lM hy',lR hb,lR hc,hd,cond_true,cond_false],gn _ _,fj _ _ ?_,by rw[dq];omega,gn _ _,fj _ _ (Nat.lt_trans hm (fA y)),by rw[dq];exact hy'⟩
   have h3:=fA x
   have h4:1000000000 ^ ((aJ y).length - 1)≤y:=by
    rcases Nat.lt_or_ge y (1000000000 ^ ((aJ y).length - 1)) with h | h
    ·have:=di h;omega
    ·exact h
   refine Nat.div_lt_of_lt_mul ?_
   refine Nat.lt_of_lt_of_le h3 (Nat.le_trans ?_ (Nat.mul_le_mul_right _ h4))
   rw[← Nat.pow_add]
   exact Nat.pow_le_pow_right (by omega) (by omega)
def L4:Lst:=[(167,jo),(166,kV),(165,CL),(164,Bq),(97,ofF)]
theorem ajA:dt base.P L4:=⟨iV,xn,Ml,GN,ml,trivial⟩
theorem abi:bC L4 167=fun a=>jo (aK a):=rfl
theorem Uz:bC L4 166=fun a=>kV (aK a):=rfl
theorem abh:bC L4 165=fun a=>CL (aK a):=rfl
theorem Uy:bC L4 164=fun a=>Bq (aK a):=rfl
theorem aiD:bC L4 97=fun a=>ofF (aK a):=rfl
theorem Jq (run:av)(dr:Bool)(hp:Θ)(r:Ω)(hd:Dok r)(hr:r.length<1000000) :
  bS (CC L4) run dr hp 167 [aL r]=some (aL (aJ (val r)),hp,⟨[],[],false,false⟩) :=
 bq vg abi run dr hp _ [aL (aJ (val r))] rfl (by simp only[aK,fF]) (by simp only[jo,cZ hd hr,eA hd])
theorem FT (run:av)(dr:Bool)(hp:Θ)(x y:Nat)(hx:(aJ x).length≤900000)(hy:(aJ y).length≤900000)(hy0:y≠0) :
  ∃ q r,bS (CC L4) run dr hp 166 [aL (aJ x),aL (aJ y)]=some (.tup [aL q,aL r],hp,⟨[],[],false,false⟩)∧Dok r∧val r=x % y∧r.length<1000000:=by
 obtain⟨q,r,h1,h2,h3,h4,h5,h6,h7⟩:=xq x y hx hy hy0
 exact⟨q,r,bq Dp Uz run dr hp [aL (aJ x),aL (aJ y)] [aL q,aL r] (mN hp _ _) (kg _ _) h1,h5,h6,h7⟩
theorem yu (run:av)(dr:Bool)(hp:Θ)(x:Nat)(hx:(aJ x).length≤2) :
  bS (CC L4) run dr hp 165 [aL (aJ x)]=some (Ab.bJ (Int.ofNat x),hp,⟨[],[],false,false⟩) :=
 bq Y0 abh run dr hp _ [Ab.bJ (Int.ofNat x)] rfl (by simp only[aK,fF]) (by
  have:(aJ x).length.ble 2=true:=by rw[Nat.ble_eq];exact hx
  simp only[CL,cZ (bV x) (show (aJ x).length<1000000 by omega),this,cond_true,bX])
theorem FR (run:av)(dr:Bool)(hp:Θ)(x y:Nat) :
  bS (CC L4) run dr hp 164 [.sc (.int .i64 (x:Int)),.sc (.int .i64 (y:Int))]=some (.sc (.int .i64 ((Nat.gcd x y:Nat):Int)),hp,⟨[],[],false,false⟩) :=
 bq Rx Uy run dr hp _ [Ab.bJ (Int.ofNat (Nat.gcd x y))] rfl rfl rfl
theorem Xx (run:av)(dr:Bool)(hp:Θ)(x:Nat)(hx:x<9223372036854775808) :
  bS (CC L4) run dr hp 97 [.sc (.int .i64 (x:Int))]=some (bt (Int.ofNat x),hp,⟨[],[],false,false⟩) :=
 bq Dq aiD run dr hp _ [bt (Int.ofNat x)] rfl rfl (by
  have h1:decide (-9223372036854775808≤(x:Int))=true:=decide_eq_true (by omega)
  have h2:decide ((x:Int)<9223372036854775808)=true:=decide_eq_true (by omega)
  simp only[ofF,h1,h2,Bool.and_self,cond_true];rfl)
theorem Sm.le9 {z:Int}(h:Sm z):(aJ z.natAbs).length≤900000:=Nat.le_of_lt (Nat.lt_trans h (by decide))
def Fe:Code:=f150.body.getD .skip
def yW:Code:=((f150.body).bind az).getD .skip
abbrev zW2:Blk:=⟨.live,[.sc (.bool false),.sc (.slice none 0 0)]⟩
theorem acv (L:Lst)(run:av)(k:Nat)(fr:Ψ)(hp:Θ)(wr:Ω)(h41:fr.length=41)(h6:nth fr 6=aL []) :
  ∃ fr',ae (CC L) run k yW ⟨fr,hp,wr⟩=some (.exit 0,⟨fr',hp,wr⟩)∧fr'.length=41∧nth fr' 4=nth fr 4∧nth fr' 5=nth fr 5:=by
 simp[yW,f150,az,h41,h6]
set_option maxHeartbeats 1000000 in
theorem O3 (run:av)(k:Nat)(fr:Ψ)(hp:Θ)(wr:Ω)(x y:Nat)(hx:(aJ x).length≤900000)(hy:(aJ y).length≤900000)(hy0:y≠0)(hns : ¬ ((aJ x).length≤2∧(aJ y).length≤2))
  (h41:fr.length=41) (h5:nth fr 5=aL (aJ x)) (h6:nth fr 6=aL (aJ y)) :
  ∃ fr',ae (CC L4) run k yW ⟨fr,hp,wr⟩=some (.normal,⟨fr',hp,wr⟩)∧fr'.length=41∧nth fr' 4=nth fr 4∧nth fr' 5=aL (aJ y)∧nth fr' 6=aL (aJ (x % y)):=by
 obtain⟨q,rr,hc,hr1,hr2,hr3⟩:=FT run false hp x y hx hy hy0
 have hc2:=fun dr=>Jq run dr hp rr hr1 hr3
 rw[hr2] at hc2
 have hp0:=(cT (n:=y)).2 hy0
 have hne:aJ y≠[]:=by intro e;rw[e] at hp0;simp at hp0
 generalize aJ (x % y)=r at *
 generalize aJ x=a at *
 generalize aJ y=b at *
 by_cases h2:a.length≤2
 ·have h3 : ¬ (b.length≤2):=fun h=>hns ⟨h2,h⟩
  simp[yW,f150,az,afX,h41,h5,h6,hp0,h2,h3,hc,hc2]
 ·simp[yW,f150,az,afX,h41,h5,h6,hp0,h2,hc,hc2]
set_option maxHeartbeats 1000000 in
theorem acr (run:av)(k:Nat)(fr:Ψ)(b0 b1:Blk)(wr:Ω)(x y:Nat)(hx:(aJ x).length≤2)(hy:(aJ y).length≤2)(hy0:y≠0)(h41:fr.length=41)(h4:nth fr 4 = .ptr 2 0)(h5:nth fr 5=aL (aJ x))(h6:nth fr 6=aL (aJ y)) :
  ∃ fr' wr',ae (CC L4) run k yW ⟨fr,[b0,b1,zW2],wr⟩=some (.ret,⟨fr',[b0,b1,⟨.live,[.sc (.bool false),aL (aJ (Nat.gcd x y))]⟩],wr'⟩)∧nth fr' 4 = .ptr 2 0:=by
 have hc1:=fun dr=>yu run dr [b0,b1,zW2] x hx
 have hc2:=fun dr=>yu run dr [b0,b1,zW2] y hy
 have hc3:=fun dr=>FR run dr [b0,b1,zW2] x y
 have hg:Nat.gcd x y<9223372036854775808:=by
  have h1:=fA y
  have h2:=Nat.pow_le_pow_right (n:=1000000000) (by omega) hy
  have h3:=Nat.gcd_le_right x (show 0<y by omega)
  have h4:1000000000 ^ 2<9223372036854775808:=by decide
  omega
 have hc4:=fun dr=>Xx run dr [b0,b1,zW2] (Nat.gcd x y) hg
 simp only[Ab.bJ,Int.ofNat_eq_natCast] at hc1 hc2
 rw[show bt (Int.ofNat (Nat.gcd x y)) = .agg [.sc (.bool false),aL (aJ (Nat.gcd x y))] from rfl] at hc4
 have hp0:=(cT (n:=y)).2 hy0
 have hne:aJ y≠[]:=by intro e;rw[e] at hp0;simp at hp0
 generalize aJ (Nat.gcd x y)=g at *
 generalize Nat.gcd x y=gg at *
 generalize aJ x=a at *
 generalize aJ y=b at *
 simp[yW,f150,az,afX,h41,h4,h5,h6,hp0,hx,hy,hc1,hc2,hc3,hc4]
theorem Fc (run:av)(k:Nat)(b0 b1:Blk) :
  ∀ (n y x:Nat) (fr:Ψ) (wr:Ω),y<n→(aJ x).length≤900000→(aJ y).length≤900000→fr.length=41→nth fr 4 = .ptr 2 0→nth fr 5=aL (aJ x)→nth fr 6=aL (aJ y) →
  (∃ fr' wr',cg (ae (CC L4) run k yW) n ⟨fr,[b0,b1,zW2],wr⟩=some (.exit 0,⟨fr',[b0,b1,zW2],wr'⟩)∧fr'.length=41∧nth fr' 4 = .ptr 2 0∧nth fr' 5=aL (aJ (Nat.gcd x y))) ∨
  (∃ fr' wr',cg (ae (CC L4) run k yW) n ⟨fr,[b0,b1,zW2],wr⟩=some (.ret,⟨fr',[b0,b1,⟨.live,[.sc (.bool false),aL (aJ (Nat.gcd x y))]⟩],wr'⟩)∧nth fr' 4 = .ptr 2 0)
 | 0,y,x,fr,wr,hn,_,_,_,_,_,_=>by omega
 | n+1,y,x,fr,wr,hn,hx,hy,h41,h4,h5,h6=>by
  by_cases hy0:y=0
  ·subst hy0
   obtain⟨fr',g1,g2,g3,g4⟩:=acv L4 run k fr [b0,b1,zW2] wr h41 h6
   exact .inl ⟨fr',wr,br g1,g2,by rw[g3,h4],by rw[g4,h5,Nat.gcd_zero_right]⟩
  ·by_cases hs:(aJ x).length≤2∧(aJ y).length≤2
   ·obtain⟨fr',wr',g1,g2⟩:=acr run k fr b0 b1 wr x y hs.1 hs.2 hy0 h41 h4 h5 h6
    exact .inr ⟨fr',wr',dD g1,g2⟩
   ·obtain⟨fr1,g1,g2,g3,g4,g5⟩:=O3 run k fr [b0,b1,zW2] wr x y hx hy hy0 hs h41 h5 h6
    have hm:=Nat.mod_lt x (show 0<y by omega)
    have:=Fc run k b0 b1 n (x % y) y fr1 wr (by omega) hy (Nat.le_trans (cw (Nat.le_of_lt hm)) hy) g2 (by rw[g3,h4]) g4 g5
    rw[bU g1]
    rw[Nat.gcd_comm y (x % y),← Nat.gcd_rec,Nat.gcd_comm y x] at this
    exact this
theorem AJ:ai 2 Fe = .seq (.block 0 (.loop yW)) (ai 3 Fe):=rfl
theorem acu (L:Lst)(run:av)(k:Nat)(na nb:Bool)(a b:Ω) :
  ∃ fr wr,bh (CC L) run k 2 Fe ⟨entry 41 [wh na a,wh nb b],[],[]⟩=some ⟨fr,[⟨.live,[.sc (.bool na),aL a]⟩,⟨.live,[.sc (.bool nb),aL b]⟩,zW2],wr⟩∧fr.length=41∧nth fr 4 = .ptr 2 0∧nth fr 5=aL a∧nth fr 6=aL b:=by
 obtain⟨e1,e2,e3⟩:=cb 39 (wh na a) (wh nb b)
 generalize entry 41 [wh na a,wh nb b]=fr0 at *
 have e4:∀ n l,wh n l = .agg [.sc (.bool n),aL l]:=fun _ _=>rfl
 rw[e4] at e2 e3
 simp[Fe,f150,bh,e1,e2,e3,bN,sD,zW,aD,bd,number,FP.free,cC,FP.apart]
theorem VQ (L:Lst)(run:av)(k:Nat)(fr:Ψ)(b0 b1:Blk)(wr:Ω)(a:Ω)(h41:fr.length=41)(h4:nth fr 4 = .ptr 2 0)(h5:nth fr 5=aL a) :
  ∃ st,ae (CC L) run k (ai 3 Fe) ⟨fr,[b0,b1,zW2],wr⟩=some (.ret,st)∧aY TT st.fr st.hp f150.results.toList=some [.agg [.sc (.bool false),aL a]]:=by
 simp[Fe,f150,yp,pV,h41,h4,h5,fb,zW,sB,sD,dJ,j6]
theorem acs (fr:Ψ)(b0 b1:Blk)(a:Ω)(h4:nth fr 4 = .ptr 2 0):aY TT fr [b0,b1,⟨.live,[.sc (.bool false),aL a]⟩] f150.results.toList=some [.agg [.sc (.bool false),aL a]]:=by
 simp[f150,h4]
def xW:Ψ→Option Ψ
 | [p,q]=>match fM p,fM q with
  | some x,some y=>some [bt (Int.ofNat (Nat.gcd x.natAbs y.natAbs))]
  | _,_=>none
 | _=>none
theorem rA:Ab.Spec base.P 150 xW:=Ab.Spec.bL (C:=CC L4) (cP ajA) fun args rs h=>by
 unfold xW at h
 split at h
 ·split at h
  ·rename_i x y ex ey
   obtain⟨rfl,hx⟩:=dV ex
   obtain⟨rfl,hy⟩:=dV ey
   simp only[OiE] at h
   subst h
   obtain⟨f1,wr1,p1,p2,p3,p4,p5⟩:=acu L4 (runK (CC L4) (y.natAbs+1)) (y.natAbs+1) (bw x) (bw y) (aJ x.natAbs) (aJ y.natAbs)
   rcases Fc (runK (CC L4) (y.natAbs+1)) (y.natAbs+1) ⟨.live,[.sc (.bool (bw x)),aL (aJ x.natAbs)]⟩ ⟨.live,[.sc (.bool (bw y)),aL (aJ y.natAbs)]⟩ (y.natAbs+1) y.natAbs x.natAbs f1 wr1 (by omega) hx.le9 hy.le9 p2 p3 p4 p5 with ⟨f2,wr2,q1,q2,q3,q4⟩| ⟨f2,wr2,q1,q2⟩
   ·obtain⟨st,e1,e2⟩:=VQ L4 (runK (CC L4) (y.natAbs+1)) (y.natAbs+1) f2 _ _ wr2 _ q2 q3 q4
    have hx:ae (CC L4) (runK (CC L4) (y.natAbs+1)) (y.natAbs+1) Fe ⟨entry 41 [bt x,bt y],[],[]⟩=some (.ret,st):=by
     rw[bt,bt,aU 2 p1,AJ,ao (bD q1)]
     exact e1
    exact⟨y.natAbs+2,_,_,_,_,_,aZ Gr rfl hx e2,jv _ (Int.ofNat (Nat.gcd x.natAbs y.natAbs)),Wk.refl rfl,trivial⟩
   ·have hx:ae (CC L4) (runK (CC L4) (y.natAbs+1)) (y.natAbs+1) Fe ⟨entry 41 [bt x,bt y],[],[]⟩=some (.ret,⟨f2,[⟨.live,[.sc (.bool (bw x)),aL (aJ x.natAbs)]⟩,⟨.live,[.sc (.bool (bw y)),aL (aJ y.natAbs)]⟩,⟨.live,[.sc (.bool false),aL (aJ (Nat.gcd x.natAbs y.natAbs))]⟩],wr2⟩):=by
     rw[bt,bt,aU 2 p1,AJ,bK (cL q1)]
    exact⟨y.natAbs+2,_,_,_,_,_,aZ Gr rfl hx (acs f2 _ _ _ q2),jv _ (Int.ofNat (Nat.gcd x.natAbs y.natAbs)),Wk.refl rfl,trivial⟩
  ·cases h
 ·cases h
def L5:Lst:=[(166,kV),(152,fx),(101,js),(97,ofF),(168,GG),(139,tv)]
theorem ajz:dt base.P L5:=⟨xn,jr,jT,ml,vX,oo,trivial⟩
theorem Ux:bC L5 166=fun a=>kV (aK a):=rfl
theorem Om:bC L5 152=fun a=>fx (aK a):=rfl
theorem abg:bC L5 101=fun a=>js (aK a):=rfl
theorem aiC:bC L5 97=fun a=>ofF (aK a):=rfl
theorem afw:bC L5 168=fun a=>GG (aK a):=rfl
theorem afx:bC L5 139=fun a=>tv (aK a):=rfl
theorem FQ (run:av)(dr:Bool)(x y:Nat)(hx:(aJ x).length≤900000)(hy:(aJ y).length≤900000)(hy0:y≠0) :
  ∃ q r,(∀ hp,bS (CC L5) run dr hp 166 [aL (aJ x),aL (aJ y)]=some (.tup [aL q,aL r],hp,⟨[],[],false,false⟩))∧Dok q∧val q=x / y∧q.length<1000000∧Dok r∧val r=x % y∧r.length<1000000:=by
 obtain⟨q,r,h1,h2⟩:=xq x y hx hy hy0
 exact⟨q,r,fun hp=>bq Dp Ux run dr hp [aL (aJ x),aL (aJ y)] [aL q,aL r] (mN hp _ _) (kg _ _) h1,h2⟩
theorem rU (run:av)(dr:Bool)(hp:Θ)(n:Bool)(l:Ω)(hd:Dok l)(hl:l.length<1000000) :
  bS (CC L5) run dr hp 152 [.sc (.bool n),aL l]=some (bt (sgn n (val l)),hp,⟨[],[],false,false⟩) :=
 bq oD Om run dr hp _ [bt (sgn n (val l))] (L0 hp n l) (FL n l) (by simp only[fx,cZ hd hl])
theorem Jp (run:av)(dr:Bool)(hp:Θ)(x:Int)(hx:Sm x):bS (CC L5) run dr hp 101 [bt x]=some (Ab.bJ x.sign,hp,⟨[],[],false,false⟩) :=
 bq vh abg run dr hp _ [Ab.bJ x.sign] (og hp x) (kL x) (by simp only[js,cQ hx])
theorem Xw (run:av)(dr:Bool)(hp:Θ):bS (CC L5) run dr hp 97 [.sc (.int .i64 1)]=some (bt 1,hp,⟨[],[],false,false⟩) :=
 bq Dq aiC run dr hp _ [bt 1] rfl rfl rfl
theorem Pw (run:av)(dr:Bool)(hp:Θ)(x y:Int)(hx:Sm x)(hy:Sm y):bS (CC L5) run dr hp 168 [bt x,bt y]=some (bt (x - y),hp,⟨[],[],false,false⟩) :=
 bq aew afw run dr hp _ [bt (x - y)] (gY hp x y) (fN x y) (by simp only[GG,cQ hx,cQ hy])
theorem Px (run:av)(dr:Bool)(hp:Θ)(x y:Int)(hx:Sm x)(hy:Sm y):bS (CC L5) run dr hp 139 [bt x,bt y]=some (bt (x+y),hp,⟨[],[],false,false⟩) :=
 bq Hf afx run dr hp _ [bt (x+y)] (gY hp x y) (fN x y) (by simp only[tv,cQ hx,cQ hy])
def divC:Code:=f151.body.getD .skip
def yf (x y:Int):Bool := !(x.natAbs % y.natAbs).beq 0 && (bw x != bw y)
def mH (x y:Int):Int:=bif yf x y then sgn (bw x != bw y) (x.natAbs / y.natAbs) - 1 else sgn (bw x != bw y) (x.natAbs / y.natAbs)
def Cf (x y:Int):Int:=bif yf x y then sgn (bw x) (x.natAbs % y.natAbs)+y else sgn (bw x) (x.natAbs % y.natAbs)
theorem Sm.of_le {x y:Int}(h:Sm y)(hl:x.natAbs≤y.natAbs):Sm x:=Nat.lt_of_le_of_lt (cw hl) h
theorem wq (n:Bool)(v:Nat):(sgn n v).natAbs=v:=by
 rw[sz];cases n <;> simp
set_option maxHeartbeats 4000000 in
theorem acU (run:av)(k:Nat)(nx ny nq nr:Bool)(a b qd rd qq rr:Ω)
  (hc1:∀ hp,bS (CC L5) run false hp 166 [aL a,aL b]=some (.tup [aL qd,aL rd],hp,⟨[],[],false,false⟩))
  (hc2:∀ dr hp,bS (CC L5) run dr hp 152 [.sc (.bool (nx != ny)),aL qd]=some (.agg [.sc (.bool nq),aL qq],hp,⟨[],[],false,false⟩))
  (hc3:∀ dr hp,bS (CC L5) run dr hp 152 [.sc (.bool nx),aL rd]=some (.agg [.sc (.bool nr),aL rr],hp,⟨[],[],false,false⟩)) :
  ∃ fr wr,bh (CC L5) run k 3 divC ⟨entry 45 [wh nx a,wh ny b],[],[]⟩=some ⟨fr,[⟨.live,[.sc (.bool nx),aL a]⟩,⟨.live,[.sc (.bool ny),aL b]⟩,⟨.live,[.sc (.bool nq),aL qq]⟩,⟨.live,[.sc (.bool nr),aL rr]⟩],wr⟩∧fr.length=45∧nth fr 2 = .ptr 0 0∧nth fr 3 = .ptr 1 0∧nth fr 4 = .ptr 2 0∧nth fr 5 = .ptr 3 0:=by
 obtain⟨e1,e2,e3⟩:=cb 43 (wh nx a) (wh ny b)
 generalize entry 45 [wh nx a,wh ny b]=fr0 at *
 have e4:∀ n l,wh n l = .agg [.sc (.bool n),aL l]:=fun _ _=>rfl
 rw[e4] at e2 e3
 cases nx <;> cases ny <;> simp only[bne_self_eq_false,Bool.bne_true,Bool.bne_false,Bool.not_false] at hc2 <;>
 simp[divC,f151,bh,e1,e2,e3,dG,bN,hc1,hc2,hc3,uB,sB,sD,zW,aB,aD,bd,number,FP.free,cC,FP.apart]
def kT:Code→Array Oper
 | .region _ ops _=>ops
 | .cond _ a _=>kT a
 | _=>#[]
def rG:Code:=seq1 (ai 3 divC)
theorem AX:ai 3 divC = .seq rG (ai 4 divC):=rfl
set_option maxHeartbeats 4000000 in
theorem Wq (run:av)(k:Nat)(fr:Ψ)(wr:Ω)(nx ny nq nr:Bool)(a b qq rr:Ω)(s:Int)(hne:s=0∨nx=ny)
  (hc4:∀ dr hp,bS (CC L5) run dr hp 101 [.agg [.sc (.bool nr),aL rr]]=some (.sc (.int .i64 s),hp,⟨[],[],false,false⟩))
  (h45:fr.length=45) (h2:nth fr 2 = .ptr 0 0) (h3:nth fr 3 = .ptr 1 0) (h4:nth fr 4 = .ptr 2 0) (h5:nth fr 5 = .ptr 3 0) :
  ∃ fr' wr',ae (CC L5) run k rG ⟨fr,[⟨.live,[.sc (.bool nx),aL a]⟩,⟨.live,[.sc (.bool ny),aL b]⟩,⟨.live,[.sc (.bool nq),aL qq]⟩,⟨.live,[.sc (.bool nr),aL rr]⟩],wr⟩=some (.normal,⟨fr',[⟨.live,[.sc (.bool nx),aL a]⟩,⟨.live,[.sc (.bool ny),aL b]⟩,⟨.live,[.sc (.bool nq),aL qq]⟩,⟨.live,[.sc (.bool nr),aL rr]⟩],wr'⟩)∧fr'.length=45∧nth fr' 4 = .ptr 2 0∧nth fr' 5 = .ptr 3 0:=by
 by_cases hs:s=0
 ·subst hs
  simp[rG,divC,f151,seq1,h45,h4,h5,hc4]
 ·have hn:nx=ny:=by rcases hne with h | h;exact absurd h hs;exact h
  subst hn
  have hs2:(s != 0)=true:=by simpa using hs
  cases nx <;> simp[rG,divC,f151,seq1,h45,h2,h3,h4,h5,dG,bN,hc4,hs2,uB,sB,aB]
theorem agr:((Region.before (kT (aO rG)))[6]?.getD 0).testBit 0=true:=by kernel_rfl
theorem agq:((Region.before (kT (aO rG)))[7]?.getD 0).testBit 3=true:=by kernel_rfl
theorem agp:((Region.before (kT (seq1 (ai 4 divC))))[2]?.getD 0).testBit 0=true:=by kernel_rfl
theorem ago:((Region.before (kT (seq1 (ai 4 divC))))[3]?.getD 0).testBit 1=true:=by kernel_rfl
set_option maxHeartbeats 4000000 in
theorem Wp (run:av)(k:Nat)(fr:Ψ)(wr:Ω)(nx nq nr nq2 nr2:Bool)(a b qq rr qq2 rr2 one:Ω)(s:Int)(hs:s≠0)
  (hc4:∀ dr hp,bS (CC L5) run dr hp 101 [.agg [.sc (.bool nr),aL rr]]=some (.sc (.int .i64 s),hp,⟨[],[],false,false⟩))
  (hc5:∀ dr hp,bS (CC L5) run dr hp 97 [.sc (.int .i64 1)]=some (.agg [.sc (.bool false),aL one],hp,⟨[],[],false,false⟩))
  (hc6:∀ dr hp,bS (CC L5) run dr hp 168 [.agg [.sc (.bool nq),aL qq],.agg [.sc (.bool false),aL one]]=some (.agg [.sc (.bool nq2),aL qq2],hp,⟨[],[],false,false⟩))
  (hc7:∀ dr hp,bS (CC L5) run dr hp 139 [.agg [.sc (.bool nr),aL rr],.agg [.sc (.bool (!nx)),aL b]]=some (.agg [.sc (.bool nr2),aL rr2],hp,⟨[],[],false,false⟩))
  (h45:fr.length=45) (h2:nth fr 2 = .ptr 0 0) (h3:nth fr 3 = .ptr 1 0) (h4:nth fr 4 = .ptr 2 0) (h5:nth fr 5 = .ptr 3 0) :
  ∃ fr' wr',ae (CC L5) run k rG ⟨fr,[⟨.live,[.sc (.bool nx),aL a]⟩,⟨.live,[.sc (.bool (!nx)),aL b]⟩,⟨.live,[.sc (.bool nq),aL qq]⟩,⟨.live,[.sc (.bool nr),aL rr]⟩],wr⟩=some (.normal,⟨fr',[⟨.live,[.sc (.bool nx),aL a]⟩,⟨.live,[.sc (.bool (!nx)),aL b]⟩,⟨.live,[.sc (.bool nq2),aL qq2]⟩,⟨.live,[.sc (.bool nr2),aL rr2]⟩],wr'⟩)∧fr'.length=45∧nth fr' 4 = .ptr 2 0∧nth fr' 5 = .ptr 3 0:=by
 have hs2:(s != 0)=true:=by simpa using hs
 have hb1:=agr
 have hb2:=agq
 simp only[rG,divC,f151,seq1,aO,ai,kT,Option.getD_some] at hb1 hb2
 cases nx <;> simp only[Bool.not_true,Bool.not_false] at hc7 ⊢ <;> simp[-Nat.testBit_zero,hb1,hb2,rG,divC,f151,seq1,h45,h2,h3,h4,h5,dG,bN,hc4,hc5,hc6,hc7,hs2,uB,sB,aB,number,FP.free,cC,FP.apart]
set_option maxHeartbeats 4000000 in
theorem Fv (L:Lst)(run:av)(k:Nat)(fr:Ψ)(wr:Ω)(b0 b1:Blk)(nq nr:Bool)(qq rr:Ω)(h45:fr.length=45)(h4:nth fr 4 = .ptr 2 0)(h5:nth fr 5 = .ptr 3 0) :
  ∃ st,ae (CC L) run k (ai 4 divC) ⟨fr,[b0,b1,⟨.live,[.sc (.bool nq),aL qq]⟩,⟨.live,[.sc (.bool nr),aL rr]⟩],wr⟩=some (.ret,st)∧aY TT st.fr st.hp f151.results.toList=some [.agg [.sc (.bool nq),aL qq],.agg [.sc (.bool nr),aL rr]]:=by
 have hb1:=agp
 have hb2:=ago
 simp only[divC,f151,seq1,ai,kT,Option.getD_some] at hb1 hb2
 simp[-Nat.testBit_zero,hb1,hb2,divC,f151,h45,h4,h5,number,FP.free,cC,FP.apart]
theorem RX (n:Bool):sgn n 0=0:=by cases n <;> rfl
theorem Rw {n:Bool}{v:Nat}(h:v≠0):(sgn n v).sign≠0:=by
 intro h'
 have h2:=Int.sign_eq_zero_iff_zero.1 h'
 rw[sz] at h2
 cases n <;> simp at h2 <;> omega
theorem Wr (run:av)(k:Nat)(x y:Int)(hx:Sm x)(hy:Sm y)(hy0:y.natAbs≠0) :
  ∃ st,ae (CC L5) run k divC ⟨entry 45 [bt x,bt y],[],[]⟩=some (.ret,st)∧aY TT st.fr st.hp f151.results.toList=some [bt (mH x y),bt (Cf x y)]:=by
 obtain⟨q,rd,hc1,hq1,hq2,hq3,hr1,hr2,hr3⟩:=FQ run false x.natAbs y.natAbs hx.le9 hy.le9 hy0
 have hm:=Nat.mod_lt x.natAbs (show 0<y.natAbs by omega)
 have hc2:=fun dr hp=>rU run dr hp (bw x != bw y) q hq1 hq3
 have hc3:=fun dr hp=>rU run dr hp (bw x) rd hr1 hr3
 rw[hq2] at hc2
 rw[hr2] at hc3
 have hRS:Sm (sgn (bw x) (x.natAbs % y.natAbs)):=hy.of_le (by rw[wq];omega)
 have hQS:Sm (sgn (bw x != bw y) (x.natAbs / y.natAbs)):=hx.of_le (by rw[wq];exact Nat.div_le_self _ _)
 have hc4:=fun dr hp=>Jp run dr hp _ hRS
 have hsg:x.natAbs % y.natAbs≠0→(sgn (bw x) (x.natAbs % y.natAbs)).sign≠0:=fun h=>Rw h
 have hsg0:x.natAbs % y.natAbs=0→(sgn (bw x) (x.natAbs % y.natAbs)).sign=0:=fun h=>by rw[h,RX];rfl
 obtain⟨Q,hQ⟩:∃ Q,Q=sgn (bw x != bw y) (x.natAbs / y.natAbs):=⟨_,rfl⟩
 obtain⟨R,hR⟩:∃ R,R=sgn (bw x) (x.natAbs % y.natAbs):=⟨_,rfl⟩
 have hdq:mH x y=bif yf x y then Q - 1 else Q:=by rw[hQ];rfl
 have hdr:Cf x y=bif yf x y then R+y else R:=by rw[hR];rfl
 rw[hdq,hdr]
 rw[← hQ] at hc2 hQS
 rw[← hR] at hc3 hc4 hRS hsg hsg0
 simp only[whW,Ab.bJ] at hc2 hc3 hc4
 obtain⟨f1,wr1,p1,p2,p3,p4,p5,p6⟩:=acU run k (bw x) (bw y) (bw Q) (bw R) (aJ x.natAbs) (aJ y.natAbs) q rd (aJ Q.natAbs) (aJ R.natAbs) hc1 hc2 hc3
 by_cases hd:x.natAbs % y.natAbs≠0∧bw x≠bw y
 ·have hA:yf x y=true:=by
   have h1:(x.natAbs % y.natAbs).beq 0=false:=by
    cases e:x.natAbs % y.natAbs with
    | zero=>exact absurd e hd.1
    | succ n=>rfl
   have h2:(bw x != bw y)=true:=by simpa using hd.2
   simp[yf,h1,h2]
  have hn:bw y = !bw x:=by
   revert hd;cases bw x <;> cases bw y <;> simp
  have hc5:=fun dr hp=>Xw run dr hp
  have hc6:=fun dr hp=>Pw run dr hp Q 1 hQS (show Sm 1 by unfold Sm;decide)
  have hc7:=fun dr hp=>Px run dr hp R y hRS hy
  rw[hA]
  simp only[cond_true]
  simp only[whW] at hc5 hc6 hc7
  rw[show bw (1:Int)=false from rfl] at hc5 hc6
  rw[hn] at hc7 p1
  obtain⟨f2,wr2,q1,q2,q3,q4⟩:=Wp run k f1 wr1 (bw x) (bw Q) (bw R) (bw (Q - 1)) (bw (R+y)) (aJ x.natAbs) (aJ y.natAbs) (aJ Q.natAbs) (aJ R.natAbs) (aJ (Q - 1).natAbs) (aJ (R+y).natAbs) (aJ (1:Int).natAbs) R.sign (hsg hd.1) hc4 hc5 hc6 hc7 p2 p3 p4 p5 p6
  obtain⟨st,e1,e2⟩:=Fv L5 run k f2 wr2 ⟨.live,[.sc (.bool (bw x)),aL (aJ x.natAbs)]⟩ ⟨.live,[.sc (.bool (!bw x)),aL (aJ y.natAbs)]⟩ (bw (Q - 1)) (bw (R+y)) (aJ (Q - 1).natAbs) (aJ (R+y).natAbs) q2 q3 q4
  refine⟨st,?_,e2⟩
  rw[bt,bt,hn,aU 3 p1,AX,ao q1]
  exact e1
 ·have hA:yf x y=false:=by
   by_cases h0:x.natAbs % y.natAbs=0
   ·simp[yf,h0]
   ·have h2:bw x=bw y:=by
     refine Classical.byContradiction fun h3=>hd ⟨h0,h3⟩
    simp[yf,h2]
  have hne:R.sign=0∨bw x=bw y:=by
   by_cases h0:x.natAbs % y.natAbs=0
   ·exact .inl (hsg0 h0)
   ·exact .inr (Classical.byContradiction fun h3=>hd ⟨h0,h3⟩)
  rw[hA]
  simp only[cond_false]
  obtain⟨f2,wr2,q1,q2,q3,q4⟩:=Wq run k f1 wr1 (bw x) (bw y) (bw Q) (bw R) (aJ x.natAbs) (aJ y.natAbs) (aJ Q.natAbs) (aJ R.natAbs) R.sign hne hc4 p2 p3 p4 p5 p6
  obtain⟨st,e1,e2⟩:=Fv L5 run k f2 wr2 ⟨.live,[.sc (.bool (bw x)),aL (aJ x.natAbs)]⟩ ⟨.live,[.sc (.bool (bw y)),aL (aJ y.natAbs)]⟩ (bw Q) (bw R) (aJ Q.natAbs) (aJ R.natAbs) q2 q3 q4
  refine⟨st,?_,e2⟩
  rw[bt,bt,aU 3 p1,AX,ao q1]
  exact e1
def Ws:Ψ→Option Ψ
 | [p,q]=>match fM p,fM q with
  | some x,some y=>bif !(y.natAbs.beq 0) then some [bt (mH x y),bt (Cf x y)] else none
  | _,_=>none
 | _=>none
theorem afi (hp:Θ)(x y:Int):bu (snap hp bn) [bt x,bt y]=some ([bt x,bt y],[]):=rfl
theorem Wo:Ab.Spec base.P 151 Ws:=Ab.Spec.bL (C:=CC L5) (cP ajz) fun args rs h=>by
 unfold Ws at h
 split at h
 ·split at h
  ·rename_i x y ex ey
   obtain⟨rfl,hx⟩:=dV ex
   obtain⟨rfl,hy⟩:=dV ey
   by_cases hy0:y.natAbs=0
   ·rw[hy0] at h;simp at h
   ·rw[kl hy0] at h
    simp only[Bool.not_false,cond_true,OiE] at h
    subst h
    obtain⟨st,e1,e2⟩:=Wr (runK (CC L5) 1) 1 x y hx hy hy0
    exact⟨2,_,_,_,_,_,aZ Gs rfl e1 e2,afi _ _ _,Wk.refl rfl,Wk.refl rfl,trivial⟩
  ·cases h
 ·cases h
end Go.Proofs.YtjdmodeenbdfpaaGreat
end
