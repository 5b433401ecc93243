/- Contracts of numbers kept as digits in text, part 20; each lemma states its conditions. -/
import Derived.Test.YtjdmodeenbdfpaaGreatV19
set_option linter.unusedSimpArgs false
set_option linter.unusedVariables false
noncomputable section
namespace Go.Proofs.YtjdmodeenbdfpaaGreat
open Go Go.Ab List Tryz
attribute [local simp] FzZ aC aF aG aH aX aZ aa ab ae af ag ah ai aj an and_assoc ao aq au av bc bf seq1
variable(L:Lst)(run:aw)(k:Nat)(fr:Ψ)(hp:Θ)(wr:Ω)
def sU (n d:Int):Int:=n / (Nat.gcd n.natAbs d.natAbs:Nat)
def qZ (n d:Int):Int:=d / (Nat.gcd n.natAbs d.natAbs:Nat)
def ua:Ψ→Option Ψ
 | [p,q]=>match fP p,fP q with
  | some n,some d=>bif decide (0<d) then some [qs (sU n d) (qZ n d)] else
    bif decide (d<0) && ((dT n).blt eQ && (dT d).blt eQ) then some [qs (sU (-n) (-d)) (qZ (-n) (-d))] else none
  | _,_=>none
 | _=>none
theorem Ad:Ab.Spec base.P 67 ua:=Ab.Spec.bS (C:=CC LT9) (cR YY) fun args rs h=>by
 unfold ua at h
 split at h
 ·split at h
  ·rename_i n d ex ey
   obtain⟨rfl,hn⟩:=di ex
   obtain⟨rfl,hd⟩:=di ey
   have h00:Zm 0:=by unfold Zm;decide
   have gc:=adl (runK (CC LT9) 1) d 0 hd h00
   by_cases hp:0<d
   ·rw[decide_eq_true hp] at h
    simp only[cond_true,OiE] at h
    subst h
    obtain⟨f1,a1,a2,a3,a4⟩:=TE LT9 (runK (CC LT9) 1) 1 (tx (ztx n)) (tx (ztx d)) _ (by unfold fI;rw[if_neg (by omega),if_neg (by omega)];omega) gc
    obtain⟨st,x1,x2⟩:=Ac (runK (CC LT9) 1) 1 f1 n d hn hd hp a2 a3 a4
    have hx:ae (CC LT9) (runK (CC LT9) 1) 1 kT ⟨entry 37 [zs n,zs d],[],[]⟩=some (.ret,st):=(aY 2 a1).trans x1
    exact⟨2,_,_,_,_,_,ba yN rfl hx x2,rfl,Wk.refl rfl,trivial⟩
   ·rw[decide_eq_false hp] at h
    simp only[cond_false] at h
    by_cases hng:d<0
    ·rw[decide_eq_true hng,Bool.true_and] at h
     cases hb:(dT n).blt eQ && (dT d).blt eQ with
     | false=>rw[hb] at h;cases h
     | true =>
      rw[hb] at h
      simp only[cond_true,OiE] at h
      subst h
      simp only[Bool.and_eq_true,Nat.blt_eq] at hb
      obtain⟨f1,a1,a2,a3,a4⟩:=TH LT9 (runK (CC LT9) 1) 1 (tx (ztx n)) (tx (ztx d)) _ _ _ (by unfold fI;rw[if_pos hng];omega) gc (Co _ n hn) (Co _ d hd)
      obtain⟨st,x1,x2⟩:=Ac (runK (CC LT9) 1) 1 f1 (-n) (-d) (Zm.neg hn hb.1) (Zm.neg hd hb.2) (by omega) a2 a3 a4
      have hx:ae (CC LT9) (runK (CC LT9) 1) 1 kT ⟨entry 37 [zs n,zs d],[],[]⟩=some (.ret,st):=(aY 2 a1).trans x1
      exact⟨2,_,_,_,_,_,ba yN rfl hx x2,rfl,Wk.refl rfl,trivial⟩
    ·rw[decide_eq_false hng] at h
     cases h
  ·cases h
 ·cases h
def uQ:PV→Option (Int × Int)
 | .sc (.string s)=>match fP (.sc (.string (tx (spl (bys s)).1))),fP (.sc (.string (tx (spl (bys s)).2.1))) with
  | some n,some d=>bif decide (bys s=qtx n d) && decide (0<d) then some (n,d) else none
  | _,_=>none
 | _=>none
theorem qm {p:PV}{n d:Int}(h:uQ p=some (n,d)):p=qs n d∧Zm n∧Zm d∧0<d:=by
 unfold uQ at h
 split at h
 ·rename_i s
  split at h
  ·rename_i n' d' e1 e2
   cases hb:decide (bys s=qtx n' d') && decide (0<d') with
   | false=>rw[hb] at h;cases h
   | true =>
    rw[hb] at h
    simp only[cond_true,OiE,PiE] at h
    obtain⟨rfl,rfl⟩:=h
    simp only[Bool.and_eq_true,decide_eq_true_eq] at hb
    refine⟨?_,(di e1).2,(di e2).2,hb.2⟩
    rw[qs,← hb.1,iC]
  ·cases h
 ·cases h
theorem XT {n d:Int}(hn:Zm n)(hd:Zm d)(h0:0<d):uQ (qs n d)=some (n,d):=by
 have e1:fP (.sc (.string (tx (ztx n))))=some n:=cG n hn
 have e2:fP (.sc (.string (tx (ztx d))))=some d:=cG d hd
 simp only[uQ,qs,jW (Iq n d),BF,e1,e2,decide_eq_true h0,decide_true,Bool.and_self,cond_true]
def BW:Ψ→Option Ψ
 | [p]=>match uQ p with
  | some (n,d)=>some [qs (-n) d]
  | none=>none
 | _=>none
theorem wU:Ab.Spec base.P 122 BW:=Ab.Spec.bS (C:=CC LT9) (cR YY) fun args rs h=>by
 unfold BW at h
 split at h
 ·split at h
  ·rename_i n d e
   obtain⟨rfl,hn,hd,h0⟩:=qm e
   simp only[OiE] at h
   subst h
   have h1:(ztx n).length≤3000000:=hn
   have h2:(ztx d).length≤3000000:=hd
   have h3:(ztx (-n)).length≤4000000:=by
    rw[gr] at h1 ⊢
    rw[CU]
    cases bz (-n) <;> simp <;> omega
   obtain⟨st,x1,x2⟩:=HH LT9 (runK (CC LT9) 1) 1 n d (-n) h3 (by omega) (aha _ n d hn hd) (Co _ n hn)
   exact⟨2,_,_,_,_,_,ba J4 rfl x1 x2,rfl,Wk.refl rfl,trivial⟩
  ·cases h
 ·cases h
def ss:Lst:=[(65,kS),(68,uh),(66,iR),(69,mI),(67,ua),(122,BW)]
theorem aep:dE base.P ss:=⟨o0,Aj,nV,pX,Ad,wU,trivial⟩
theorem abZ:bx ss 65=fun a=>kS (aK a):=rfl
theorem abY:bx ss 68=fun a=>uh (aK a):=rfl
theorem ab0:bx ss 66=fun a=>iR (aK a):=rfl
theorem U9:bx ss 67=fun a=>ua (aK a):=rfl
theorem vO(n d:Int)(hn:Zm n)(hd:Zm d):az ss run 65 [qs n d] (.tup [zs n,zs d,.sc (.bool (!decide (d=1)))]):=fun dr hp =>
 bt kn abZ run dr hp _ [zs n,zs d,.sc (.bool (!decide (d=1)))] rfl rfl (G0 n d hn hd)
theorem Cp(x y:Int)(hx:Zm x)(hy:Zm y):az ss run 68 [zs x,zs y] (zs (x*y)):=fun dr hp =>
 bt wF abY run dr hp _ [zs (x*y)] rfl rfl (by simp only[uh,cG x hx,cG y hy])
theorem WR(n d:Int)(hn:Zm n)(hd:Zm d)(h0:0<d):az ss run 67 [zs n,zs d] (qs (sU n d) (qZ n d)):=fun dr hp =>
 bt Ds U9 run dr hp _ [qs (sU n d) (qZ n d)] rfl rfl (by simp only[ua,cG n hn,cG d hd,decide_eq_true h0,cond_true])
def zmB (z:Int):Bool:=(ztx z).length.ble eQ
theorem Bu {z:Int}(h:zmB z=true):Zm z:=by unfold zmB at h;rw[Nat.ble_eq] at h;exact h
theorem Ml(x y:Int)(hx:Zm x)(hy:Zm y):az ss run 66 [zs x,zs y] (zs (x+y)):=fun dr hp =>
 bt sK ab0 run dr hp _ [zs (x+y)] rfl rfl (by simp only[iR,cG x hx,cG y hy])
theorem HG(s t a b c d r:ByteArray)(u v:Bool)(hb:fw .eql b { data:=#[49] } = some (.bool true))(hd:fw .eql d { data:=#[49] } = some (.bool true))(g1:az L run 65 [.sc (.string s)] (.tup [.sc (.string a),.sc (.string b),.sc (.bool u)]))(g2:az L run 65 [.sc (.string t)] (.tup [.sc (.string c),.sc (.string d),.sc (.bool v)]))
  (g3:az L run 66 [.sc (.string a),.sc (.string c)] (.sc (.string r))) :
  ∃ st,ae (CC L) run k (f24.body.getD .skip) ⟨entry 43 [.sc (.string s),.sc (.string t)],[],[]⟩=some (.ret,st)∧aX TT st.fr st.hp f24.results.toList=some [.sc (.string r)]:=by
 obtain⟨e1,e2,e3⟩:=cl 41 (.sc (.string s)) (.sc (.string t))
 generalize entry 43 [.sc (.string s),.sc (.string t)]=fr0 at *
 unfold az at *
 simp[f24,e1,e2,e3,aM,g1,g2,g3,hb,hd]
theorem HF(s t a b c d e f g h r:ByteArray)(u v w1 w2:Bool)(hw:(w1 && w2)=false)(hb:fw .eql b { data:=#[49] } = some (.bool w1))(hd:fw .eql d { data:=#[49] } = some (.bool w2))(g1:az L run 65 [.sc (.string s)] (.tup [.sc (.string a),.sc (.string b),.sc (.bool u)]))(g2:az L run 65 [.sc (.string t)] (.tup [.sc (.string c),.sc (.string d),.sc (.bool v)]))
  (g3:az L run 68 [.sc (.string a),.sc (.string d)] (.sc (.string e))) (g4:az L run 68 [.sc (.string c),.sc (.string b)] (.sc (.string f))) (g5:az L run 66 [.sc (.string e),.sc (.string f)] (.sc (.string g))) (g6:az L run 68 [.sc (.string b),.sc (.string d)] (.sc (.string h))) (g7:az L run 67 [.sc (.string g),.sc (.string h)] (.sc (.string r))) :
  ∃ st,ae (CC L) run k (f24.body.getD .skip) ⟨entry 43 [.sc (.string s),.sc (.string t)],[],[]⟩=some (.ret,st)∧aX TT st.fr st.hp f24.results.toList=some [.sc (.string r)]:=by
 obtain⟨e1,e2,e3⟩:=cl 41 (.sc (.string s)) (.sc (.string t))
 generalize entry 43 [.sc (.string s),.sc (.string t)]=fr0 at *
 unfold az at *
 cases w1 <;> cases w2 <;> simp only[Bool.and_true,Bool.and_false,Bool.and_self,Bool.true_eq_false] at hw <;> simp[f24,e1,e2,e3,aM,g1,g2,g3,g4,g5,g6,g7,hb,hd,undef]
def wT:Ψ→Option Ψ
 | [p,q]=>match uQ p,uQ q with
  | some (n,d),some (m,k)=>bif decide (d=1) && decide (k=1) then some [qs (n+m) 1] else
    bif zmB (n*k) && (zmB (m*d) && (zmB (n*k+m*d) && zmB (d*k))) then some [qs (sU (n*k+m*d) (d*k)) (qZ (n*k+m*d) (d*k))] else none
  | _,_=>none
 | _=>none
theorem Af:Ab.Spec base.P 24 wT:=Ab.Spec.bS (C:=CC ss) (cR aep) fun args rs h=>by
 unfold wT at h
 split at h
 ·split at h
  ·rename_i n d m k ex ey
   obtain⟨rfl,hn,hd,hd0⟩:=qm ex
   obtain⟨rfl,hm,hk,hk0⟩:=qm ey
   cases hw:decide (d=1) && decide (k=1) with
   | true =>
    rw[hw] at h
    simp only[cond_true,OiE] at h
    subst h
    simp only[Bool.and_eq_true,decide_eq_true_eq] at hw
    obtain⟨rfl,rfl⟩:=hw
    obtain⟨st,x1,x2⟩:=HG ss (runK (CC ss) 1) 1 _ _ _ _ _ _ _ _ _ (pq 1) (pq 1) (vO _ n 1 hn hd) (vO _ m 1 hm hk) (Ml _ n m hn hm)
    exact⟨2,_,_,_,_,_,ba uV rfl x1 x2,rfl,Wk.refl rfl,trivial⟩
   | false =>
    rw[hw] at h
    simp only[cond_false] at h
    cases hb:zmB (n*k) && (zmB (m*d) && (zmB (n*k+m*d) && zmB (d*k))) with
    | false=>rw[hb] at h;cases h
    | true =>
     rw[hb] at h
     simp only[cond_true,OiE] at h
     subst h
     simp only[Bool.and_eq_true] at hb
     obtain⟨b1,b2,b3,b4⟩:=hb
     obtain⟨st,x1,x2⟩:=HF ss (runK (CC ss) 1) 1 _ _ _ _ _ _ _ _ _ _ _ _ _ _ _ hw (pq d) (pq k) (vO _ n d hn hd) (vO _ m k hm hk) (Cp _ n k hn hk) (Cp _ m d hm hd) (Ml _ _ _ (Bu b1) (Bu b2)) (Cp _ d k hd hk) (WR _ _ _ (Bu b3) (Bu b4) (Int.mul_pos hd0 hk0))
     exact⟨2,_,_,_,_,_,ba uV rfl x1 x2,rfl,Wk.refl rfl,trivial⟩
  ·cases h
 ·cases h
def Nb (k:Nat)(z:Int):Prop:=z.natAbs<10 ^ k
def Rb (k:Nat)(x:Rat):Prop:=Nb k x.num∧Nb k x.den
theorem Nb.mono {j k:Nat}{z:Int}(h:Nb j z)(hk:j≤k):Nb k z:=Nat.lt_of_lt_of_le h (Nat.pow_le_pow_right (by omega) hk)
theorem Rb.mono {j k:Nat}{z:Rat}(h:Rb j z)(hk:j≤k):Rb k z:=⟨h.1.mono hk,h.2.mono hk⟩
theorem Nb.sm {k:Nat}{z:Int}(h:Nb k z)(hk:k≤2000000):Sm z:=by
 have h1:z.natAbs<1000000000 ^ (k / 9+1):=by
  refine Nat.lt_of_lt_of_le h ?_
  have:(1000000000:Nat)=10 ^ 9:=by decide
  rw[this,← Nat.pow_mul]
  exact Nat.pow_le_pow_right (by omega) (by omega)
 exact Nat.lt_of_le_of_lt (df h1) (by omega)
theorem Nb.smB {k:Nat}{z:Int}(h:Nb k z)(hk:k≤2000000):smB z=true:=by
 unfold YtjdmodeenbdfpaaGreat.smB
 rw[Nat.blt_eq]
 have hN:0<11000000:=by decide
 have hK:4*k≤11000000:=by omega
 generalize 11000000=N at hN hK ⊢
 by_cases h0:z.natAbs=0
 ·rw[h0];exact hN
 ·rw[Nat.log2_lt h0]
  refine Nat.lt_of_lt_of_le h ?_
  have:(10:Nat) ^ k≤16 ^ k:=Nat.pow_le_pow_left (by omega) k
  refine Nat.le_trans this ?_
  have e:(16:Nat)=2 ^ 4:=by decide
  rw[e,← Nat.pow_mul]
  exact Nat.pow_le_pow_right (by decide) hK
theorem Nb.dT {k:Nat}{z:Int}(h:Nb k z):dT z≤k+1:=by
 unfold Ab.dT
 rw[tv (by omega)]
 exact Nat.lt_of_lt_of_le h (Nat.pow_le_pow_right (by omega) (by omega))
theorem Nb.zm {k:Nat}{z:Int}(h:Nb k z)(hk:k≤2000000):Zm z:=by
 unfold Zm
 rw[gr]
 have:=h.dT
 unfold eQ
 cases bz z <;> simp <;> omega
theorem Nb.zmB {k:Nat}{z:Int}(h:Nb k z)(hk:k≤2000000):zmB z=true:=by
 unfold YtjdmodeenbdfpaaGreat.zmB
 rw[Nat.ble_eq]
 exact h.zm hk
theorem Nb.mul {j k:Nat}{x y:Int}(h:Nb j x)(h':Nb k y):Nb (j+k) (x*y):=by
 unfold Nb at *
 rw[Int.natAbs_mul,Nat.pow_add]
 exact Nat.mul_lt_mul'' h h'
theorem Nb.add {k:Nat}{x y:Int}(h:Nb k x)(h':Nb k y):Nb (k+1) (x+y):=by
 unfold Nb at *
 have:=Int.natAbs_add_le x y
 rw[Nat.pow_succ]
 omega
theorem Nb.neg {k:Nat}{x:Int}(h:Nb k x):Nb k (-x):=by unfold Nb at *;rw[Int.natAbs_neg];exact h
theorem Nb.div {k:Nat}{x:Int}(h:Nb k x)(g:Nat):Nb k (x / g):=by
 unfold Nb at *
 refine Nat.lt_of_le_of_lt ?_ h
 exact Int.natAbs_ediv_le_natAbs x g
theorem Nb.den {k:Nat}{x:Rat}(h:Rb k x):Nb k x.den:=h.2
theorem qX (x y:Rat):sU (x.num*y.den+y.num*x.den) (x.den*y.den)=(x+y).num:=by
 rw[Rat.add_def,Rat.normalize_eq]
 simp only[sU,Int.natAbs_mul,Int.natAbs_natCast]
theorem qY (x y:Rat):qZ (x.num*y.den+y.num*x.den) (x.den*y.den)=((x+y).den:Int):=by
 rw[Rat.add_def,Rat.normalize_eq]
 simp only[qZ,Int.natAbs_mul,Int.natAbs_natCast]
 simp
theorem DS (x y:Rat):sU (x.num*y.num) (x.den*y.den)=(x*y).num:=by
 rw[Rat.mul_def,Rat.normalize_eq]
 simp only[sU,Int.natAbs_mul,Int.natAbs_natCast]
theorem DT (x y:Rat):qZ (x.num*y.num) (x.den*y.den)=((x*y).den:Int):=by
 rw[Rat.mul_def,Rat.normalize_eq]
 simp only[qZ,Int.natAbs_mul,Int.natAbs_natCast]
 simp
theorem Rb.mul {j k:Nat}{x y:Rat}(h:Rb j x)(h':Rb k y):Rb (j+k) (x*y):=by
 constructor
 ·rw[← DS];exact (h.1.mul h'.1).div _
 ·rw[← DT];exact (h.2.mul h'.2).div _
theorem Rb.add {j k:Nat}{x y:Rat}(h:Rb j x)(h':Rb k y):Rb (j+k+1) (x+y):=by
 constructor
 ·rw[← qX]
  refine (Nb.add (h.1.mul h'.2) ?_).div _
  rw[Nat.add_comm]
  exact h'.1.mul h.2
 ·rw[← qY];exact ((h.2.mul h'.2).div _).mono (by omega)
theorem Rb.neg {k:Nat}{x:Rat}(h:Rb k x):Rb k (-x):=by
 constructor
 ·rw[Rat.neg_num];exact h.1.neg
 ·rw[Rat.neg_den];exact h.2
theorem Rb.sub {j k:Nat}{x y:Rat}(h:Rb j x)(h':Rb k y):Rb (j+k+1) (x - y):=by
 rw[Rat.sub_eq_add_neg];exact h.add h'.neg
theorem Rb.zero:Rb (k+1) 0:=⟨Nat.pow_pos (by omega),Nat.one_lt_pow (by omega) (by omega)⟩
theorem Rb.one:Rb (k+1) 1:=⟨Nat.one_lt_pow (by omega) (by omega),Nat.one_lt_pow (by omega) (by omega)⟩
def rv:Option Rat→PV
 | none=>cf 0 0
 | some x=>cf x.num x.den
def vv:Option Rat→Rat
 | none=>0
 | some x=>x
theorem aaD (u:Option Rat):∃ b,rv u=cf (vv u).num b∧dB b=(vv u).den∧(∀ k,Rb (k+1) (vv u)→Nb (k+1) b):=by
 cases u with
 | none=>exact⟨0,rfl,rfl,fun k _=>Nat.pow_pos (by omega)⟩
 | some x =>
  refine⟨x.den,rfl,?_,fun k h=>h.2⟩
  have:=x.den_pos
  unfold dB
  rw[if_neg (by omega)]
  rfl
theorem jE (n d:Int)(h:0<d):kY n d=sU n d∧kZ n d=qZ n d:=by
 have hg:n.natAbs % Nat.gcd n.natAbs d.natAbs=0:=Nat.mod_eq_zero_of_dvd (Nat.gcd_dvd_left _ _)
 have hg0:0<Nat.gcd n.natAbs d.natAbs:=Nat.gcd_pos_of_pos_right _ (by omega)
 unfold kY kZ sU qZ
 have hn:bz d=false:=by rw[cL];simp;omega
 rw[hn,cond_false]
 generalize Nat.gcd n.natAbs d.natAbs=g at *
 constructor
 ·obtain⟨q,hq⟩:=Nat.dvd_of_mod_eq_zero hg
  have hq2:n.natAbs / g=q:=by rw[hq];exact Nat.mul_div_cancel_left _ (by omega)
  rw[hq2]
  unfold sgn
  rw[cL]
  have hgq:((g*q:Nat):Int)=(g:Int)*q:=by simp
  by_cases hs:n<0
  ·have h2:n=(g:Int)*(-(q:Int)):=by
    rw[Int.mul_neg,← hgq,← hq];omega
   rw[decide_eq_true hs,cond_true,Int.negOfNat_eq]
   conv=>rhs;rw[h2]
   rw[Int.mul_ediv_cancel_left _ (by omega)]
   rfl
  ·have h2:n=(g:Int)*(q:Int):=by
    rw[← hgq,← hq];omega
   rw[decide_eq_false hs,cond_false]
   conv=>rhs;rw[h2]
   rw[Int.mul_ediv_cancel_left _ (by omega)]
   rfl
 ·obtain⟨m,rfl⟩:=Int.eq_ofNat_of_zero_le (Int.le_of_lt h)
  simp
theorem fV (n d:Int)(h:0<d):(Rat.divInt n d).num=sU n d∧((Rat.divInt n d).den:Int)=qZ n d:=by
 obtain⟨m,rfl⟩:=Int.eq_ofNat_of_zero_le (Int.le_of_lt h)
 rw[Rat.divInt_ofNat,Rat.mkRat_def,dif_neg (by omega),Rat.normalize_eq]
 exact⟨rfl,by simp[qZ]⟩
theorem uH (n d:Int)(h:d≠0):kY n d=(Rat.divInt n d).num∧kZ n d=(Rat.divInt n d).den:=by
 by_cases hd:0<d
 ·rw[(jE n d hd).1,(jE n d hd).2,(fV n d hd).1,(fV n d hd).2];exact⟨rfl,rfl⟩
 ·have e1:kY n d=kY (-n) (-d):=by
   have h1:bz d=true:=by rw[cL];simp;omega
   have h2:bz (-d)=false:=by rw[cL];simp;omega
   unfold kY
   rw[h1,h2,Int.natAbs_neg,Int.natAbs_neg]
   rfl
  have e2:kZ n d=kZ (-n) (-d):=by unfold kZ;rw[Int.natAbs_neg,Int.natAbs_neg]
  rw[e1,e2,← Rat.neg_divInt_neg,(jE _ _ (by omega:0 < -d)).1,(jE _ _ (by omega:0 < -d)).2,(fV _ _ (by omega:0 < -d)).1,(fV _ _ (by omega:0 < -d)).2]
  exact⟨rfl,rfl⟩
theorem yo (x y:Rat):x / y=Rat.divInt (x.num*y.den) (x.den*y.num):=by
 rw[Rat.div_def,Rat.inv_def]
 conv=>lhs;rw[← Rat.num_divInt_den x]
 rw[Rat.divInt_mul_divInt]
def gP (x y:Rat):Int:=if x<y then -1 else if x=y then 0 else 1
theorem X4 (x y:Rat):fI (x.num*y.den) (y.num*x.den)=gP x y:=by
 unfold fI gP
 by_cases h:x<y
 ·rw[if_pos h,if_pos ((Rat.lt_iff x y).1 h)]
 ·rw[if_neg h,if_neg (fun e=>h ((Rat.lt_iff x y).2 e))]
  have hi:x.num*y.den=y.num*x.den ↔ x=y:=by
   constructor
   ·intro e
    have h1:x≤y:=(Rat.le_iff x y).2 (Int.le_of_eq e)
    have h2:y≤x:=(Rat.le_iff y x).2 (Int.le_of_eq e.symm)
    exact Rat.le_antisymm h1 h2
   ·intro e;rw[e]
  by_cases h2:x=y
  ·rw[if_pos h2,if_pos (hi.2 h2)]
  ·rw[if_neg h2,if_neg (fun e=>h2 (hi.1 e))]
def ko (x:Rat):Int:=x.num.sign
theorem nA {u:Option Rat}{k:Nat}(h:Rb k (vv u))(hk:k≤2000000):∃ b,rv u=cf (vv u).num b∧dB b=(vv u).den∧gL (rv u)=some ((vv u).num,b)∧Nb k b:=by
 obtain⟨b,h1,h2,h3⟩:=aaD u
 cases u with
 | none =>
  refine⟨0,rfl,rfl,gZ (h.1.sm hk) (by unfold Sm;decide),Nat.pow_pos (by omega)⟩
 | some x =>
  have:=x.den_pos
  refine⟨x.den,rfl,?_,gZ (h.1.sm hk) (h.2.sm hk),h.2⟩
  unfold dB
  rw[if_neg (by omega)]
  rfl
theorem oW (x:Rat):rv (some x)=cf x.num x.den:=rfl
theorem Jz (x:Rat):(x.den:Int)≠0:=by have:=x.den_pos;omega
theorem AF (n:Int)(x y:Rat):rm n (x.den*y.den)=true:=by
 have h1:=x.den_pos
 have h2:=y.den_pos
 unfold rm
 rw[Int.natAbs_mul,Int.natAbs_natCast,Int.natAbs_natCast]
 have:x.den*y.den≠0:=Nat.ne_of_gt (Nat.mul_pos h1 h2)
 simp only[Bool.not_eq_true']
 cases e:(x.den*y.den).beq 0 with
 | false=>rfl
 | true=>exact absurd (Nat.eq_of_beq_eq_true e) this
theorem DY {u v:Option Rat}{j k:Nat}(hu:Rb j (vv u))(hv:Rb k (vv v))(h:j+k≤1000000):je [rv u,rv v]=some [rv (some (vv u+vv v))]:=by
 obtain⟨b,b1,b2,b3,b4⟩:=nA hu (by omega)
 obtain⟨d,d1,d2,d3,d4⟩:=nA hv (by omega)
 have g1:=hu.1.mul hv.2
 have g2:=hv.1.mul hu.2
 rw[Nat.add_comm k j] at g2
 have g3:=hu.2.mul hv.2
 have g4:=AF ((vv u).num*(vv v).den+(vv v).num*(vv u).den) (vv u) (vv v)
 have hp:(0:Int)<(vv u).den*(vv v).den:=Int.mul_pos (by have:=(vv u).den_pos;omega) (by have:=(vv v).den_pos;omega)
 simp only[je,b3,d3,b2,d2,g1.smB (by omega),g2.smB (by omega),(g1.add g2).smB (by omega),g3.smB (by omega),g4,Bool.and_self,cond_true,oW,(jE _ _ hp).1,(jE _ _ hp).2,qX,qY]
theorem DN {u v:Option Rat}{j k:Nat}(hu:Rb j (vv u))(hv:Rb k (vv v))(h:j+k≤1000000):kR [rv u,rv v]=some [rv (some (vv u*vv v))]:=by
 obtain⟨b,b1,b2,b3,b4⟩:=nA hu (by omega)
 obtain⟨d,d1,d2,d3,d4⟩:=nA hv (by omega)
 have g1:=hu.1.mul hv.1
 have g3:=hu.2.mul hv.2
 have g4:=AF ((vv u).num*(vv v).num) (vv u) (vv v)
 have hp:(0:Int)<(vv u).den*(vv v).den:=Int.mul_pos (by have:=(vv u).den_pos;omega) (by have:=(vv v).den_pos;omega)
 simp only[kR,b3,d3,b2,d2,g1.smB (by omega),g3.smB (by omega),g4,Bool.and_self,cond_true,oW,(jE _ _ hp).1,(jE _ _ hp).2,DS,DT]
theorem Tz {u v:Option Rat}{j k:Nat}(hu:Rb j (vv u))(hv:Rb k (vv v))(h:j+k≤1000000):lU [rv u,rv v]=some [Ab.bN (gP (vv u) (vv v))]:=by
 obtain⟨b,b1,b2,b3,b4⟩:=nA hu (by omega)
 obtain⟨d,d1,d2,d3,d4⟩:=nA hv (by omega)
 have g1:=hu.1.mul hv.2
 have g2:=hv.1.mul hu.2
 simp only[lU,b3,d3,b2,d2,g1.smB (by omega),g2.smB (by omega),Bool.and_self,cond_true,X4]
def Hv:Option Rat→Option Rat
 | none=>none
 | some x=>some (-x)
theorem RI (u:Option Rat):vv (Hv u) = - vv u:=by cases u <;> rfl
theorem DM {u:Option Rat}{j:Nat}(hu:Rb j (vv u))(h:j≤1000000):kp [rv u]=some [rv (Hv u)]:=by
 obtain⟨b,b1,b2,b3,b4⟩:=nA hu (by omega)
 cases u with
 | none=>rfl
 | some x =>
  have h2:gL (cf x.num x.den)=some (x.num,(x.den:Int)):=gZ (hu.1.sm (by omega)) (hu.2.sm (by omega))
  simp only[kp,oW,h2,Hv,Rat.neg_num,Rat.neg_den]
theorem zY {u:Option Rat}{j:Nat}(hu:Rb j (vv u))(h:j≤1000000):jS [rv u]=some [Ab.bN (ko (vv u))]:=by
 obtain⟨b,b1,b2,b3,b4⟩:=nA hu (by omega)
 simp only[jS,b3,ko]
theorem Tb {u v:Option Rat}{j k:Nat}(hu:Rb j (vv u))(hv:Rb k (vv v))(h:j+k≤1000000):tU [rv u,rv v]=some [rv (some (vv u - vv v))]:=by
 obtain⟨d,d1,d2,d3,d4⟩:=nA hv (by omega)
 have e:cf (-(vv v).num) d=rv (Hv v):=by
  have h1:=DM hv (by omega)
  simp only[kp,d3,OiE,List.cons.injEq,and_true] at h1
  exact h1
 have h2:Rb k (vv (Hv v)):=by rw[RI];exact hv.neg
 simp only[tU,d3,e,DY hu h2 h,RI,Rat.sub_eq_add_neg]
theorem sh (u:Option Rat):canon (rv u)=rv u:=by cases u <;> exact Cz _ _
theorem Bh (u:Option Rat):aK [rv u]=[rv u]:=by simp only[aK,sh]
theorem tA (u v:Option Rat):aK [rv u,rv v]=[rv u,rv v]:=by simp only[aK,sh]
theorem Z9(d:Nat)(u:Option Rat):Ab.snap hp (d+2) (rv u)=some (rv u,[]):=by cases u <;> rfl
theorem wq(u:Option Rat):bw (snap hp bq) [rv u]=some ([rv u],[]):=by cases u <;> rfl
theorem wo(u v:Option Rat):bw (snap hp bq) [rv u,rv v]=some ([rv u,rv v],[]):=by cases u <;> cases v <;> rfl
theorem aat:base.shared 55=false:=by kernel_rfl
theorem Lg:base.shared 56=false:=by kernel_rfl
theorem aau:base.shared 129=false:=by kernel_rfl
theorem DC:base.shared 49=false:=by kernel_rfl
theorem ait {L:Lst}(hL:bx L 55=fun a=>tU (aK a))(run:aw){u v:Option Rat}{j k:Nat}(hu:Rb j (vv u))(hv:Rb k (vv v))(h:j+k≤1000000):az L run 55 [rv u,rv v] (rv (some (vv u - vv v))):=fun dr hp =>
 bt aat hL run dr hp _ [rv (some (vv u - vv v))] (wo hp u v) (tA u v) (Tb hu hv h)
theorem Y7 {L:Lst}(hL:bx L 56=fun a=>kR (aK a))(run:aw){u v:Option Rat}{j k:Nat}(hu:Rb j (vv u))(hv:Rb k (vv v))(h:j+k≤1000000):az L run 56 [rv u,rv v] (rv (some (vv u*vv v))):=fun dr hp =>
 bt Lg hL run dr hp _ [rv (some (vv u*vv v))] (wo hp u v) (tA u v) (DN hu hv h)
theorem CN {L:Lst}(hL:bx L 129=fun a=>lU (aK a))(run:aw){u v:Option Rat}{j k:Nat}(hu:Rb j (vv u))(hv:Rb k (vv v))(h:j+k≤1000000):az L run 129 [rv u,rv v] (Ab.bN (gP (vv u) (vv v))):=fun dr hp =>
 bt aau hL run dr hp _ [Ab.bN (gP (vv u) (vv v))] (wo hp u v) (tA u v) (Tz hu hv h)
theorem aer {L:Lst}(hL:bx L 49=fun a=>jS (aK a))(run:aw){u:Option Rat}{j:Nat}(hu:Rb j (vv u))(h:j≤1000000):az L run 49 [rv u] (Ab.bN (ko (vv u))):=fun dr hp =>
 bt DC hL run dr hp _ [Ab.bN (ko (vv u))] (wq hp u) (Bh u) (zY hu h)
theorem ahW {a b:Nat}(h:a.beq b=true):a=b:=Nat.eq_of_beq_eq_true h
theorem qw {a b:Nat}(h:a≠b):a.beq b=false:=by
 cases e:a.beq b with
 | false=>rfl
 | true=>exact absurd (ahW e) h
theorem C8 (z:Int):lO (ztx z)=true:=by
 have h3:ztx z=(bif bz z then [45] else [])++dtx z.natAbs:=vU z
 rw[h3]
 have hd:=rU z.natAbs
 cases e:dtx z.natAbs with
 | nil=>exact absurd e (Xw _)
 | cons a r =>
  rw[e] at hd
  have ha:=dI.1 (fT hd mem_cons_self)
  have hh:vHd (a::r)=false:=by
   cases r with
   | nil=>rfl
   | cons b r=>exact qw (rQ e)
  cases hn:bz z with
  | false =>
   simp only[cond_false,nil_append,lO,lr,qw (show a≠45 by omega),hh,hd]
   rfl
  | true =>
   have h48:a≠48:=by
    cases r with
    | nil =>
     intro ea
     rw[ea] at e
     exact LL hn e
    | cons b r=>exact rQ e
   have h45:(45:Nat).beq 45=true:=rfl
   simp only[cond_true,cons_append,nil_append,lO,lr,qw h48,cond_false,hh,hd,h45]
   rfl
theorem zD {l:Ω}(h:lO l=true):∃ z,l=ztx z:=by
 have key:∀ (m:Bool) (ds:Ω),vHd ds=false→eI ds=true→(m=true→ds≠[48])→∃ z,(bif m then [45] else [])++ds=ztx z:=by
  intro m ds h1 h2 h3
  refine⟨_,MI h2 (by intro e;subst e;simp[vHd] at h1) h3 ?_⟩
  intro a b l e ea
  subst e;subst ea
  simp[vHd] at h1
 unfold lO at h
 cases l with
 | nil=>simp[lr,vHd] at h
 | cons a l =>
  by_cases ha:a=45
  ·subst ha
   cases l with
   | nil=>simp[lr,vHd] at h
   | cons b l =>
    by_cases hb:b=48
    ·subst hb;simp[lr] at h
    ·have h45:(45:Nat).beq 45=true:=rfl
     simp only[lr,qw hb,cond_true,cond_false,h45,Bool.and_eq_true,Bool.not_eq_true'] at h
     obtain⟨z,hz⟩:=key true (b::l) h.1 h.2 (fun _ e=>hb (List.cons.inj e).1)
     exact⟨z,hz⟩
  ·simp only[lr,qw ha,cond_false,Bool.and_eq_true,Bool.not_eq_true'] at h
   obtain⟨z,hz⟩:=key false (a::l) h.1 h.2 nofun
   exact⟨z,hz⟩
def vk (n:Bool):Ω→Bool
 | []=>true
 | [a]=>a.beq 48 && n
 | a::_=>a.beq 48
theorem aei (n:Bool)(s:ByteArray):pN n (bQ s)=vk n (bys s):=by
 unfold bys
 cases bQ s with
 | nil=>rfl
 | cons a l=>cases l <;> rfl
def isM:Ω→Bool
 | []=>false
 | a::_=>a.beq 45
theorem XW (s:ByteArray):yw s=isM (bys s):=by
 unfold yw bys jg
 cases bQ s with
 | nil=>rfl
 | cons a l =>
  show (Nat.ble 1 (l.length+1) && eqL [a] [45])=a.toNat.beq 45
  have:Nat.ble 1 (l.length+1)=true:=by rw[Nat.ble_eq];omega
  rw[this,Bool.true_and]
  simp only[eqL,Bool.and_true]
  by_cases h:a.toNat=45
  ·rw[h];rfl
  ·rw[qw h,beq_eq_false_iff_ne];exact h
theorem ahD (s:ByteArray):bys (qn s)=bif isM (bys s) then (bys s).drop 1 else bys s:=by
 have:=XW s
 unfold yw at this
 unfold qn
 rw[this]
 cases isM (bys s) with
 | false=>rfl
 | true =>
  simp only[cond_true]
  unfold bys
  rw[fk,map_drop]
theorem DW (s:ByteArray):gN s=bif vk (isM (bys s)) (bif isM (bys s) then (bys s).drop 1 else bys s) then none else bif eI (bif isM (bys s) then (bys s).drop 1 else bys s) then some (sgn (isM (bys s)) (dec 0 (bif isM (bys s) then (bys s).drop 1 else bys s))) else none:=by
 unfold gN
 rw[aei,ahD,XW]
theorem SP (m:Bool)(n:Nat):sgn m n=gM m n:=rfl
theorem HD {s:ByteArray}{z:Int}(h:bys s=ztx z):gN s=some z:=by
 rw[DW,h]
 have h3:ztx z=(bif bz z then [45] else [])++dtx z.natAbs:=vU z
 have hz:=iq z
 rw[h3]
 have hd:=rU z.natAbs
 have hv:=pt z.natAbs
 cases e:dtx z.natAbs with
 | nil=>exact absurd e (Xw _)
 | cons a r =>
  rw[e] at hd hv
  have ha:=dI.1 (fT hd mem_cons_self)
  cases hn:bz z with
  | false =>
   have hb:vk false (a::r)=false:=by
    cases r with
    | nil=>simp[vk]
    | cons b r=>exact qw (rQ e)
   simp only[cond_false,nil_append,isM,qw (show a≠45 by omega),hb,hd,cond_true,SP]
   rw[hv,← hn,hz]
  | true =>
   have hb:vk true (a::r)=false:=by
    cases r with
    | nil =>
     have:a≠48:=by
      intro ea
      rw[ea] at e
      exact LL hn e
     simp[vk,qw this]
    | cons b r=>exact qw (rQ e)
   have h45:(45:Nat).beq 45=true:=rfl
   simp only[cond_true,cons_append,nil_append,isM,h45,drop_succ_cons,drop_zero,hb,cond_false,hd,SP]
   rw[hv,← hn,hz]
theorem tX {s:ByteArray}{z:Int}(h:gN s=some z):bys s=ztx z:=by
 rw[DW] at h
 have key:∀ (m:Bool) (ds:Ω),vk m ds=false→eI ds=true→some (sgn m (dec 0 ds))=some z→(bif m then [45] else [])++ds=ztx z:=by
  intro m ds h1 h2 h3
  simp only[OiE] at h3
  rw[← h3,SP]
  refine MI h2 (by intro e;subst e;simp[vk] at h1) ?_ ?_
  ·rintro rfl rfl
   simp[vk] at h1
  ·intro a b l e ea
   subst e;subst ea
   simp[vk] at h1
 cases hm:isM (bys s) with
 | true =>
  rw[hm] at h
  simp only[cond_true] at h
  cases hb:vk true ((bys s).drop 1) with
  | true=>rw[hb] at h;cases h
  | false =>
   rw[hb] at h
   simp only[cond_false] at h
   cases hd:eI ((bys s).drop 1) with
   | false=>rw[hd] at h;cases h
   | true =>
    rw[hd] at h
    simp only[cond_true] at h
    rw[← key true _ hb hd h]
    cases e:bys s with
    | nil=>rw[e] at hm;cases hm
    | cons a l =>
     rw[e] at hm
     rw[ahW hm];rfl
 | false =>
  rw[hm] at h
  simp only[cond_false] at h
  cases hb:vk false (bys s) with
  | true=>rw[hb] at h;cases h
  | false =>
   rw[hb] at h
   simp only[cond_false] at h
   cases hd:eI (bys s) with
   | false=>rw[hd] at h;cases h
   | true =>
    rw[hd] at h
    simp only[cond_true] at h
    exact key false _ hb hd h
theorem WG:∀ l:List UInt8,Lib.indexByte l 47=match fN (l.map UInt8.toNat) with
  | some j=>(j:Int)
  | none => -1
 | []=>rfl
 | a::l=>by
  have ih:=WG l
  simp only[Lib.indexByte,map_cons,fN]
  by_cases h:a.toNat=47
  ·have:(a == 47)=true:=by rw[beq_iff_eq,← UInt8.toNat_inj];exact h
   rw[this,if_pos rfl,h]
   rfl
  ·have:(a == 47)=false:=by rw[beq_eq_false_iff_ne,ne_eq,← UInt8.toNat_inj];exact h
   rw[this,if_neg (by simp),qw h,cond_false,ih]
   cases fN (l.map UInt8.toNat) with
   | none=>rfl
   | some j =>
    simp only[Option.map_some]
    have h1 : ¬ ((((j:Nat):Int) == -1)=true):=by
     rw[beq_iff_eq];omega
    rw[if_neg h1]
    rfl
theorem ac5 (s:ByteArray):idx s=match fN (bys s) with
  | some j=>(j:Int)
  | none => -1:=by
 unfold idx
 cases h:eqL [47] (bQ s) with
 | false=>exact WG (bQ s)
 | true =>
  have h2:[47]=bQ s:=by
   have h3:=Ab.tr [47] (bQ s)
   rw[h] at h3
   exact eq_of_beq h3.symm
  unfold bys
  rw[← h2]
  rfl
theorem FA:∀ {l:Ω} {j:Nat},fN l=some j→j<l.length
 | a::l,j,h=>by
  simp only[fN] at h
  cases e:a.beq 47 with
  | true=>rw[e] at h;simp at h;subst h;simp
  | false =>
   rw[e] at h
   simp only[cond_false,Option.map_eq_some_iff] at h
   obtain⟨i,hi,rfl⟩:=h
   have:=FA hi
   simpa using this
theorem adY (s:ByteArray)(h9:(bys s).length≤1000000000):mc s=true∧bys (jM s)=(spl (bys s)).1∧vg s=(spl (bys s)).2.2∧(vg s=true→bys (jL s)=(spl (bys s)).2.1):=by
 unfold mc jM jL vg spl
 rw[ac5]
 cases h:fN (bys s) with
 | none=>refine⟨?_,?_,?_,?_⟩ <;> first | rfl | trivial | nofun
 | some j =>
  have:=FA h
  simp only
  rw[j7] at this h9
  refine⟨?_,?_,by trivial,fun _ => ?_⟩
  ·show ((j+1).ble (bQ s).length && (bQ s).length.ble 1000000000)=true
   simp only[Bool.and_eq_true,Nat.ble_eq];omega
  ·show bys (mkStr ((bQ s).take j))=_
   unfold bys;rw[fk,map_take]
  ·show bys (mkStr ((bQ s).drop (j+1)))=_
   unfold bys;rw[fk,map_drop]
def qb (x:Rat):ByteArray:=tx (qtx x.num x.den)
def qt (x:Rat):PV:=.sc (.string (qb x))
theorem Lq (x:Rat):qs x.num x.den=qt x:=rfl
theorem YK (x:Rat):bys (qb x)=qtx x.num x.den:=jW (Iq _ _)
theorem lu (x:Rat):spl (bys (qb x))=(ztx x.num,ztx x.den, !decide ((x.den:Int)=1)):=by rw[YK,BF]
theorem tf {x y:Rat}(h:qb x=qb y):x=y:=by
 have h1:=lu x
 rw[h,lu] at h1
 simp only[PiE] at h1
 exact Rat.ext (qE h1.1).symm (by have:=qE h1.2.1;omega)
theorem adH (s t:ByteArray):fw .eql s t=some (.bool (decide (s=t))):=by
 have h:eqL (bQ s) (bQ t)=decide (s=t):=by
  rw[Ab.tr]
  by_cases h:s=t
  ·subst h;simp
  ·have:bQ s≠bQ t:=fun e=>h (by rw[← gE s,e,gE])
   simp[h,this]
 simp only[fw,h]
theorem acq (s t:ByteArray):fw .neq s t=some (.bool (!decide (s=t))):=by
 have h:=adH s t
 simp only[fw,OiE,Value.bool.injEq] at h
 simp only[fw,h]
theorem Rb.zm {k:Nat}{x:Rat}(h:Rb k x)(hk:k≤2000000):Zm x.num∧Zm (x.den:Int):=⟨h.1.zm hk,h.2.zm hk⟩
theorem XR {k:Nat}{x:Rat}(h:Rb k x)(hk:k≤2000000):uQ (qt x)=some (x.num,(x.den:Int)):=XT (h.zm hk).1 (h.zm hk).2 (by have:=x.den_pos;omega)
theorem af2 {x y:Rat}{j k:Nat}(hx:Rb j x)(hy:Rb k y)(h:j+k≤1000000):wT [qt x,qt y]=some [qt (x+y)]:=by
 have g1:=hx.1.mul hy.2
 have g2:=hy.1.mul hx.2
 rw[Nat.add_comm k j] at g2
 have g3:=hx.2.mul hy.2
 simp only[wT,XR hx (by omega),XR hy (by omega)]
 cases hb:decide ((x.den:Int)=1) && decide ((y.den:Int)=1) with
 | true =>
  simp only[Bool.and_eq_true,decide_eq_true_eq] at hb
  have h1:=qX x y
  have h2:=qY x y
  rw[hb.1,hb.2] at h1 h2
  simp[sU,qZ] at h1 h2
  rw[cond_true,h1,← Lq,← h2]
 | false =>
  rw[cond_false,g1.zmB (by omega),g2.zmB (by omega),(g1.add g2).zmB (by omega),g3.zmB (by omega)]
  simp only[Bool.and_self,cond_true,qX,qY,Lq]
theorem akJ {L:Lst}(hL:bx L 24=fun a=>wT (aK a))(run:aw){x y:Rat}{j k:Nat}(hx:Rb j x)(hy:Rb k y)(h:j+k≤1000000):az L run 24 [qt x,qt y] (qt (x+y)):=fun dr hp =>
 bt Ns hL run dr hp _ [qt (x+y)] rfl rfl (af2 hx hy h)
theorem MR {L:Lst}(hL:bx L 65=fun a=>kS (aK a))(run:aw){x:Rat}{j:Nat}(hx:Rb j x)(h:j≤2000000):az L run 65 [qt x] (.tup [zs x.num,zs x.den,.sc (.bool (!decide ((x.den:Int)=1)))]):=fun dr hp =>
 bt kn hL run dr hp _ [zs x.num,zs x.den,.sc (.bool (!decide ((x.den:Int)=1)))] rfl rfl (G0 _ _ (hx.zm h).1 (hx.zm h).2)
theorem Y8 {L:Lst}(hL:bx L 68=fun a=>uh (aK a))(run:aw)(x y:Int)(hx:Zm x)(hy:Zm y):az L run 68 [zs x,zs y] (zs (x*y)):=fun dr hp =>
 bt wF hL run dr hp _ [zs (x*y)] rfl rfl (by simp only[uh,cG x hx,cG y hy])
theorem aet {L:Lst}(hL:bx L 69=fun a=>mI (aK a))(run:aw)(x y:Int)(hx:Zm x)(hy:Zm y):az L run 69 [zs x,zs y] (Ab.bN (fI x y)):=fun dr hp =>
 bt Dy hL run dr hp _ [Ab.bN (fI x y)] rfl rfl (by simp only[mI,cG x hx,cG y hy])
theorem akI {L:Lst}(hL:bx L 67=fun a=>ua (aK a))(run:aw)(n d:Int)(hn:Zm n)(hd:Zm d)(h0:d≠0)(hz:(dT n).blt eQ=true∧(dT d).blt eQ=true):az L run 67 [zs n,zs d] (qt (Rat.divInt n d)):=fun dr hp =>
 bt Ds hL run dr hp _ [qt (Rat.divInt n d)] rfl rfl (by
  simp only[ua,cG n hn,cG d hd]
  by_cases h:0<d
  ·rw[decide_eq_true h,cond_true,← (fV n d h).1,← (fV n d h).2,Lq]
  ·rw[decide_eq_false h,cond_false,decide_eq_true (show d<0 by omega),hz.1,hz.2]
   have h2:0 < -d:=by omega
   simp only[Bool.and_self,cond_true]
   rw[← Rat.neg_divInt_neg,← (fV (-n) (-d) h2).1,← (fV (-n) (-d) h2).2,Lq])
theorem ji {L:Lst}{g:Nat}{α:Type}{e:α→Ψ}{ok:α→Prop}{f:α→Ψ}(hs:base.shared g=false)(hL:bx L g=fun a=>ctr e ok f (aK a))(inj:∀ x y,ok x→ok y→e x=e y→f x=f y)(run:aw)(x:α)(hx:ok x)
  (hsn:∀ hp,bw (snap hp bq) (e x)=some (e x,[])) (hc:aK (e x)=e x):az L run g (e x) (jm (f x)):=fun dr hp =>
 bt hs hL run dr hp _ (f x) (hsn hp) hc (oB inj hx)
theorem Gu:base.F.get 25=some f25:=by kernel_rfl
theorem Nt:base.shared 25=false:=by kernel_rfl
theorem Uw {x y:Rat}(h:qt x=qt y):x=y:=by
 unfold qt at h
 simp only[PV.sc.injEq,Value.string.injEq] at h
 exact tf h
abbrev RR:=Rat × Rat
def e2q (p:RR):Ψ:=[qt p.1,qt p.2]
def ok2 (p:RR):Prop:=Rb 400000 p.1∧Rb 400000 p.2
theorem adL {p q:RR}(h:e2q p=e2q q):p=q:=by
 simp only[e2q,List.cons.injEq,and_true] at h
 exact Prod.ext (Uw h.1) (Uw h.2)
def LQ1:Lst:=[(65,kS),(68,uh),(69,mI),(67,ua),(122,BW),(24,wT),(111,TL),(112,uz),(48,o9)]
theorem Y2:dE base.P LQ1:=⟨o0,Aj,pX,Ad,wU,Af,TI,Ar,ub,trivial⟩
theorem abG(s t a b c d e f r:ByteArray)(u v:Bool)(g1:az L run 65 [.sc (.string s)] (.tup [.sc (.string a),.sc (.string b),.sc (.bool u)]))(g2:az L run 65 [.sc (.string t)] (.tup [.sc (.string c),.sc (.string d),.sc (.bool v)]))
  (g3:az L run 68 [.sc (.string a),.sc (.string d)] (.sc (.string e))) (g4:az L run 68 [.sc (.string b),.sc (.string c)] (.sc (.string f))) (g5:az L run 67 [.sc (.string e),.sc (.string f)] (.sc (.string r))) :
  ∃ st,ae (CC L) run k (f25.body.getD .skip) ⟨entry 30 [.sc (.string s),.sc (.string t)],[],[]⟩=some (.ret,st)∧aX TT st.fr st.hp f25.results.toList=some [.sc (.string r)]:=by
 obtain⟨e1,e2,e3⟩:=cl 28 (.sc (.string s)) (.sc (.string t))
 generalize entry 30 [.sc (.string s),.sc (.string t)]=fr0 at *
 unfold az at *
 simp[f25,e1,e2,e3,aM,g1,g2,g3,g4,g5]
def ovF:Ψ→Option Ψ:=ctr e2q (fun p=>ok2 p∧p.2≠0) fun p=>[qt (p.1 / p.2)]
theorem Nb.zl {k:Nat}{z:Int}(h:Nb k z)(hk:k≤2000000):(Ab.dT z).blt eQ=true:=by
 rw[Nat.blt_eq]
 have:=h.dT
 unfold eQ
 omega
theorem abF:Ab.Spec base.P 25 ovF:=Ab.Spec.bS (C:=CC LQ1) (cR Y2) fun args rs h=>by
 obtain⟨⟨x,y⟩,⟨⟨hx,hy⟩,h0⟩,rfl,rfl⟩:=db h
 have gx:=MR (L:=LQ1) rfl (runK (CC LQ1) 1) hx (by omega)
 have gy:=MR (L:=LQ1) rfl (runK (CC LQ1) 1) hy (by omega)
 have m1:=Y8 (L:=LQ1) rfl (runK (CC LQ1) 1) x.num y.den (hx.1.zm (by omega)) (hy.2.zm (by omega))
 have m2:=Y8 (L:=LQ1) rfl (runK (CC LQ1) 1) x.den y.num (hx.2.zm (by omega)) (hy.1.zm (by omega))
 have b1:=hx.1.mul hy.2
 have b2:=hx.2.mul hy.1
 have hn:(x.den:Int)*y.num≠0:=by
  intro e
  rcases Int.mul_eq_zero.1 e with e | e
  ·exact Jz x e
  ·exact h0 (Rat.num_eq_zero.1 e)
 have g:=akI (L:=LQ1) rfl (runK (CC LQ1) 1) (x.num*y.den) (x.den*y.num) (b1.zm (by omega)) (b2.zm (by omega)) hn ⟨b1.zl (by omega),b2.zl (by omega)⟩
 obtain⟨st,x1,x2⟩:=abG LQ1 (runK (CC LQ1) 1) 1 _ _ _ _ _ _ _ _ _ _ _ gx gy m1 m2 g
 refine⟨2,_,_,_,_,_,ba Gu rfl x1 x2,rfl,?_,trivial⟩
 show Wk (qt (Rat.divInt _ _)) (qt (x / y))
 rw[yo]
 exact Wk.refl rfl
theorem akK {L:Lst}(hL:bx L 25=fun a=>ovF (aK a))(run:aw){x y:Rat}{j k:Nat}(hx:Rb j x)(hy:Rb k y)(hj:j≤400000)(hk:k≤400000)(h0:y≠0):az L run 25 [qt x,qt y] (qt (x / y)) :=
 ji Nt hL (fun p q _ _ h=>by rw[adL h]) run (x,y) ⟨⟨hx.mono hj,hy.mono hk⟩,h0⟩ (fun _=>rfl) rfl
def pB (p:Prop):Bool:=@decide p (Classical.propDecidable p)
theorem iy {p:Prop}(h:p):pB p=true:=by unfold pB;exact @decide_eq_true _ (Classical.propDecidable p) h
theorem iV {p:Prop}(h : ¬ p):pB p=false:=by unfold pB;exact @decide_eq_false _ (Classical.propDecidable p) h
theorem UF {p:Prop} : pB p=true ↔ p:=by
 constructor
 ·intro h
  by_cases hp:p
  ·exact hp
  ·rw[iV hp] at h;cases h
 ·exact iy
theorem ale(s a b:ByteArray)(sl:Bool)(g1:az L run 65 [.sc (.string s)] (.tup [.sc (.string a),.sc (.string b),.sc (.bool sl)]))(g2:az L run 111 [.sc (.string a)] (.sc (.bool false))) :
  ∃ st,ae (CC L) run k (f64.body.getD .skip) ⟨entry 34 [.sc (.string s)],[],[]⟩=some (.ret,st)∧aX TT st.fr st.hp f64.results.toList=some [.sc (.bool false)]:=by
 obtain⟨e1,e2⟩:=cO 33 (.sc (.string s))
 generalize entry 34 [.sc (.string s)]=fr0 at *
 unfold az at *
 simp[f64,e1,e2,aM,unP,g1,g2]
theorem ald(s a b:ByteArray)(g1:az L run 65 [.sc (.string s)] (.tup [.sc (.string a),.sc (.string b),.sc (.bool false)]))(g2:az L run 111 [.sc (.string a)] (.sc (.bool true))) :
  ∃ st,ae (CC L) run k (f64.body.getD .skip) ⟨entry 34 [.sc (.string s)],[],[]⟩=some (.ret,st)∧aX TT st.fr st.hp f64.results.toList=some [.sc (.bool true)]:=by
 obtain⟨e1,e2⟩:=cO 33 (.sc (.string s))
 generalize entry 34 [.sc (.string s)]=fr0 at *
 unfold az at *
 simp[f64,e1,e2,aM,unP,g1,g2]
theorem alc(s a b:ByteArray)(g1:az L run 65 [.sc (.string s)] (.tup [.sc (.string a),.sc (.string b),.sc (.bool true)]))(g2:az L run 111 [.sc (.string a)] (.sc (.bool true)))(g3:az L run 111 [.sc (.string b)] (.sc (.bool false))) :
  ∃ st,ae (CC L) run k (f64.body.getD .skip) ⟨entry 34 [.sc (.string s)],[],[]⟩=some (.ret,st)∧aX TT st.fr st.hp f64.results.toList=some [.sc (.bool false)]:=by
 obtain⟨e1,e2⟩:=cO 33 (.sc (.string s))
 generalize entry 34 [.sc (.string s)]=fr0 at *
 unfold az at *
 simp[f64,e1,e2,aM,unP,g1,g2,g3,undef]
theorem alb(s a b g:ByteArray)(c:Int)(w1 w2:Bool)(h1:fw .neq a { data:=#[48] } = some (.bool w1))(h2:fw .eql g { data:=#[49] } = some (.bool w2))(g1:az L run 65 [.sc (.string s)] (.tup [.sc (.string a),.sc (.string b),.sc (.bool true)]))(g2:az L run 111 [.sc (.string a)] (.sc (.bool true)))(g3:az L run 111 [.sc (.string b)] (.sc (.bool true)))
  (g4:az L run 69 [.sc (.string b),.sc (.string { data:=#[50] })] (Ab.bN c)) (g5:az L run 112 [.sc (.string a),.sc (.string b)] (.sc (.string g))) :
  ∃ st,ae (CC L) run k (f64.body.getD .skip) ⟨entry 34 [.sc (.string s)],[],[]⟩=some (.ret,st)∧aX TT st.fr st.hp f64.results.toList=some [.sc (.bool (w1 && (decide (0≤c) && w2)))]:=by
 obtain⟨e1,e2⟩:=cO 33 (.sc (.string s))
 generalize entry 34 [.sc (.string s)]=fr0 at *
 unfold az at *
 simp only[Ab.bN] at *
 cases w1 with
 | false=>simp[f64,e1,e2,aM,unP,g1,g2,g3,h1,undef]
 | true =>
  by_cases hc:0≤c
  ·have hc2:(c ≥ 0)=True:=by simp[hc]
   simp[f64,e1,e2,aM,unP,g1,g2,g3,g4,g5,h1,h2,hc]
  ·have hc2:(c ≥ 0)=False:=by simp only[ge_iff_le,hc]
   simp[f64,e1,e2,aM,unP,g1,g2,g3,g4,h1,hc,undef]
theorem Y6 {L:Lst}(hL:bx L 65=fun a=>kS (aK a))(run:aw)(s:ByteArray)(h9:(bys s).length<20000000):az L run 65 [.sc (.string s)] (.tup [.sc (.string (tx (spl (bys s)).1)),.sc (.string (tx (spl (bys s)).2.1)),.sc (.bool (spl (bys s)).2.2)]):=fun dr hp =>
 bt kn hL run dr hp _ [.sc (.string (tx (spl (bys s)).1)),.sc (.string (tx (spl (bys s)).2.1)),.sc (.bool (spl (bys s)).2.2)] rfl rfl (by have:=GZ (bys s) (nf s) h9;rwa [iC] at this)
theorem ae1 {L:Lst}(hL:bx L 111=fun a=>TL (aK a))(run:aw)(l:Ω)(hl:Bok l)(h9:l.length<20000000):az L run 111 [.sc (.string (tx l))] (.sc (.bool (lO l))):=fun dr hp =>
 bt Hh hL run dr hp _ [.sc (.bool (lO l))] rfl rfl (by
  have:l.length.blt 20000000=true:=by rw[Nat.blt_eq];exact h9
  simp only[TL,jW hl,this,cond_true])
theorem aiv {L:Lst}(hL:bx L 112=fun a=>uz (aK a))(run:aw)(x y:Int)(hx:Zm x)(hy:Zm y):az L run 112 [zs x,zs y] (zs ((Nat.gcd x.natAbs y.natAbs:Nat):Int)):=fun dr hp =>
 bt Dw hL run dr hp _ [zs ((Nat.gcd x.natAbs y.natAbs:Nat):Int)] rfl rfl (by simp only[uz,cG x hx,cG y hy])
def IsQ (s:ByteArray):Prop:=∃ x:Rat,s=qb x
theorem yd:∀ {l:Ω} {j:Nat},fN l=some j→l=l.take j++47::l.drop (j+1)
 | a::l,j,h=>by
  simp only[fN] at h
  cases e:a.beq 47 with
  | true =>
   rw[e] at h
   simp at h
   subst h
   rw[ahW e];rfl
  | false =>
   rw[e] at h
   simp only[cond_false,Option.map_eq_some_iff] at h
   obtain⟨i,hi,rfl⟩:=h
   have:=yd hi
   rw[take_succ_cons,drop_succ_cons,cons_append,← this]
theorem ag2 {s:ByteArray}(h:lO (spl (bys s)).1=false) : ¬ IsQ s:=by
 rintro⟨x,rfl⟩
 rw[lu,C8] at h
 cases h
theorem ac2 {s:ByteArray}(h0:(spl (bys s)).2.2=true)(h:lO (spl (bys s)).2.1=false) : ¬ IsQ s:=by
 rintro⟨x,rfl⟩
 rw[lu,C8] at h
 cases h
theorem LZ {s:ByteArray}{z:Int}(h0:(spl (bys s)).2.2=false)(h:(spl (bys s)).1=ztx z):s=qb (z:Rat):=by
 unfold spl at h h0
 cases e:fN (bys s) with
 | some j=>rw[e] at h0;cases h0
 | none =>
  rw[e] at h
  simp only at h
  rw[← iC s,h,qb,Rat.num_intCast,Rat.den_intCast]
  rfl
theorem Fm {s:ByteArray}{n d:Int}(h0:(spl (bys s)).2.2=true)(h1:(spl (bys s)).1=ztx n)(h2:(spl (bys s)).2.1=ztx d)(h3:2≤d)(h4:Nat.gcd n.natAbs d.natAbs=1):∃ x:Rat,s=qb x∧x.num=n∧(x.den:Int)=d:=by
 obtain⟨m,rfl⟩:=Int.eq_ofNat_of_zero_le (show 0≤d by omega)
 refine⟨⟨n,m,by omega,h4⟩,?_,rfl,rfl⟩
 unfold spl at h0 h1 h2
 cases e:fN (bys s) with
 | none=>rw[e] at h0;cases h0
 | some j =>
  rw[e] at h1 h2
  simp only at h1 h2
  rw[← iC s,yd e,h1,h2,qb,qtx,if_neg (show ¬ ((m:Nat):Int)=1 by have:(2:Int)≤(m:Int):=h3;omega)]
theorem Fo {s:ByteArray}{n d:Int}(h0:(spl (bys s)).2.2=true)(h1:(spl (bys s)).1=ztx n)(h2:(spl (bys s)).2.1=ztx d)(h:IsQ s):n≠0∧2≤d∧Nat.gcd n.natAbs d.natAbs=1:=by
 obtain⟨x,rfl⟩:=h
 rw[lu] at h0 h1 h2
 simp only[Bool.not_eq_true',decide_eq_false_iff_not] at h0
 have e1:=qE h1
 have e2:=qE h2
 have h3:=x.den_pos
 have h4:=x.reduced
 subst e1
 rw[← e2]
 refine⟨fun e => ?_,by omega,by simpa using h4⟩
 rw[e] at h4
 simp at h4
 omega
theorem KO {l:Ω}{z:Int}(h:l=ztx z)(h9:l.length<2000000):Zm z:=by
 unfold Zm eQ
 rw[← h];omega
def isF:Ψ→Option Ψ:=ctr (fun s:ByteArray=>[.sc (.string s)]) (fun s=>(bys s).length<1000000) fun s=>[.sc (.bool (pB (IsQ s)))]
theorem ags (z:Int):fw .neq (tx (ztx z)) { data:=#[48] } = some (.bool (!decide (z=0))):=by
 have e:({ data:=#[48] } : ByteArray)=tx (ztx 0):=rfl
 rw[e,acq]
 by_cases h:z=0
 ·subst h;simp
 ·rw[decide_eq_false h,decide_eq_false fun e2=>h (qE (IX (lq z) (lq 0) e2))]
theorem ac1:Ab.Spec base.P 64 isF:=Ab.Spec.bS (C:=CC LQ1) (cR Y2) fun args rs h=>by
 obtain⟨s,h9,rfl,rfl⟩:=db h
 have hl:=vr (bys s)
 have hB:=R5 (nf s)
 have gs:=Y6 (L:=LQ1) rfl (runK (CC LQ1) 1) s (by omega)
 have ga:=ae1 (L:=LQ1) rfl (runK (CC LQ1) 1) (spl (bys s)).1 hB.1 (by omega)
 have gb:=ae1 (L:=LQ1) rfl (runK (CC LQ1) 1) (spl (bys s)).2.1 hB.2 (by omega)
 show ∃ k rs1 hp1 wr rs2 ids,_∧_∧WkL rs2 [.sc (.bool (pB (IsQ s)))]
 cases va:lO (spl (bys s)).1 with
 | false =>
  rw[va] at ga
  rw[iV (ag2 va)]
  obtain⟨st,x1,x2⟩:=ale LQ1 (runK (CC LQ1) 1) 1 _ _ _ _ gs ga
  exact⟨2,_,_,_,_,_,ba pF rfl x1 x2,rfl,Wk.refl rfl,trivial⟩
 | true =>
  rw[va] at ga
  obtain⟨n,hn⟩:=zD va
  cases hs:(spl (bys s)).2.2 with
  | false =>
   rw[hs] at gs
   rw[iy ⟨_,LZ hs hn⟩]
   obtain⟨st,x1,x2⟩:=ald LQ1 (runK (CC LQ1) 1) 1 _ _ _ gs ga
   exact⟨2,_,_,_,_,_,ba pF rfl x1 x2,rfl,Wk.refl rfl,trivial⟩
  | true =>
   rw[hs] at gs
   cases vb:lO (spl (bys s)).2.1 with
   | false =>
    rw[vb] at gb
    rw[iV (ac2 hs vb)]
    obtain⟨st,x1,x2⟩:=alc LQ1 (runK (CC LQ1) 1) 1 _ _ _ gs ga gb
    exact⟨2,_,_,_,_,_,ba pF rfl x1 x2,rfl,Wk.refl rfl,trivial⟩
   | true =>
    rw[vb] at gb
    obtain⟨d,hd⟩:=zD vb
    have zn:=KO hn (by omega)
    have zd:=KO hd (by omega)
    have gc:=aet (L:=LQ1) rfl (runK (CC LQ1) 1) d 2 zd (by unfold Zm;decide)
    have gg:=aiv (L:=LQ1) rfl (runK (CC LQ1) 1) n d zn zd
    rw[hn] at gs ga
    rw[hd] at gs gb
    obtain⟨st,x1,x2⟩:=alb LQ1 (runK (CC LQ1) 1) 1 _ _ _ _ _ _ _ (ags n) (pq _) gs ga gb gc gg
    refine⟨2,_,_,_,_,_,ba pF rfl x1 x2,rfl,?_,trivial⟩
    have e:pB (IsQ s)=(!decide (n=0) && (decide (0≤fI d 2) && decide (((Nat.gcd n.natAbs d.natAbs:Nat):Int)=1))):=by
     have hc:0≤fI d 2 ↔ 2≤d:=by
      unfold fI
      by_cases h1:d<2
      ·rw[if_pos h1];omega
      ·rw[if_neg h1];split <;> omega
     by_cases hq:IsQ s
     ·obtain⟨q1,q2,q3⟩:=Fo hs hn hd hq
      rw[iy hq,decide_eq_false q1,decide_eq_true (hc.2 q2),q3];rfl
     ·rw[iV hq]
      by_cases q2:2≤d
      ·by_cases q3:Nat.gcd n.natAbs d.natAbs=1
       ·obtain⟨x,hx,-⟩:=Fm hs hn hd q2 q3
        exact absurd ⟨x,hx⟩ hq
       ·have : ¬ (((Nat.gcd n.natAbs d.natAbs:Nat):Int)=1):=by omega
        rw[decide_eq_false this];simp
      ·rw[decide_eq_false fun e=>q2 (hc.1 e)];simp
    rw[e]
    exact Wk.refl rfl
theorem Bt:base.F.get 98=some f98:=by kernel_rfl
theorem aar:base.shared 98=false:=by kernel_rfl
def wxC:Code:=f98.body.getD .skip
def wxO:Code:=(aA (seq1 (ai 3 wxC))).getD .skip
def wxI:Code:=(aA wxO).getD .skip
def blk:Code→Code
 | .block _ c=>c
 | c=>c
def afe:Code:=seq1 wxO
def afd:Code:=seq1 (aQ wxO)
def ZR:Code:=seq1 (blk (seq1 (aQ (aQ wxO))))
def ZQ:Code:=seq1 (aQ (blk (seq1 (aQ (aQ wxO)))))
def Rx:Code:=aQ (aQ (aQ wxO))
theorem afc:wxO = .seq afe (.seq afd (.seq (.block 1 (.seq ZR (.seq ZQ (.block 2 (.loop wxI))))) Rx)):=rfl
def WF (fr:Ψ)(l:Ω)(i:Nat):Prop:=fr.length=81∧nth fr 1 = .ptr 0 0∧nth fr 19=aP l∧nth fr 20=iv l.length∧nth fr 21=iv i
theorem ZS(l:Ω)(i:Nat)(h:WF fr l i)(h25:nth fr 25=iv 9) :
  ∃ fr',ae (CC L) run k wxI ⟨fr,hp,wr⟩=some (.exit 2,⟨fr',hp,wr⟩)∧WF fr' l i∧nth fr' 3=nth fr 3:=by
 obtain⟨h0,h1,h19,h20,h21⟩:=h
 simp only[iv] at h25
 simp[WF,wxI,wxO,wxC,f98,aA,h0,h1,h19,h20,h21,h25]
set_option maxHeartbeats 1000000 in
theorem MW(l out:Ω)(i c x:Nat)(hx:x≤4294967295)(hc:c<9)(h9:out.length<90000000)(h:WF fr l i)(h25:nth fr 25=iv c)(h5:nth fr 5 = .sc (.int .u32 (x:Int)))(hO:dt u8v 1 hp out (nth fr 3)) :
  ∃ fr' hp' wr',ae (CC L) run k wxI ⟨fr,hp,wr⟩=some (.normal,⟨fr',hp',wr'⟩)∧WF fr' l i∧nth fr' 25=iv (c+1)∧nth fr' 5 = .sc (.int .u32 ((x / 10:Nat):Int))∧dt u8v 1 hp' (out++[x % 10+48]) (nth fr' 3)∧aL hp' 0=aL hp 0:=by
 obtain⟨h0,h1,h19,h20,h21⟩:=h
 obtain⟨d,hd⟩:∃ d,d=x % 10:=⟨_,rfl⟩
 obtain⟨q,hq⟩:∃ q,q=x / 10:=⟨_,rfl⟩
 rw[← hd,← hq]
 have hd9:d<10:=by rw[hd];exact Nat.mod_lt _ (by decide)
 have hq9:q≤4294967295:=by rw[hq];exact Nat.le_trans (Nat.div_le_self _ _) hx
 have hw3:bA .u32 (q:Int)=(q:Int):=cq .u32 q (iX hq9)
 clear hx hq9
 obtain⟨b,hb⟩:∃ b,b=d+48:=⟨_,rfl⟩
 have hb9:b≤255:=by clear hd hq;omega
 rw[← hb]
 obtain⟨p',hp',fp,g1,g2,g3⟩:=hO.app b (by clear hd hq;omega)
 have g4:=g3 0 (by decide)
 have hw1:bA .u32 (48+(d:Int))=(b:Int):=by rw[show (48+(d:Int))=(b:Int) by clear hd hq;omega];exact cq .u32 b (iX (Nat.le_trans hb9 (by decide)))
 have hw2:bA .u8 (b:Int)=(b:Int):=cq .u8 b hb9
 have hw4:=bD c (Nat.lt_trans hc (by decide))
 have hc2:(c:Int)<9:=by clear hd hq;omega
 have htm:(x:Int).tmod 10=(d:Int):=by rw[hd];rfl
 have htq:(x:Int) / 10=(q:Int):=by rw[hq];rfl
 clear hd hq
 have hlX:=Mg b
 simp only[iv] at h25 ⊢
 simp[WF,wxI,wxO,wxC,f98,aA,bg,lX,h0,h1,h19,h20,h21,h25,h5,hc2,htm,htq,u32,u8T,dD,hw1,hw2,hw3,hw4,hlX,Lm,tq,qK,sU8,bU8,zU8,ch,g1,g2,g4]
theorem CY (L:Lst)(run:aw)(k:Nat)(l:Ω)(i:Nat):∀ (n c x:Nat) (fr:Ψ) (hp:Θ) (wr out:Ω),c+n=9→x≤4294967295→out.length+n<90000000→WF fr l i→nth fr 25=iv c→nth fr 5 = .sc (.int .u32 (x:Int))→dt u8v 1 hp out (nth fr 3) →
  ∃ (fr':Ψ) (hp':Θ) (wr':Ω),cb (ae (CC L) run k wxI) (n+1) ⟨fr,hp,wr⟩=some (.exit 2,⟨fr',hp',wr'⟩)∧WF fr' l i∧dt u8v 1 hp' (out++(T.cZ n x).map (· + 48)) (nth fr' 3)∧aL hp' 0=aL hp 0
 | 0,c,x,fr,hp,wr,out,hc,hx,h9,h,h25,h5,hO=>by
  have:c=9:=by omega
  subst this
  obtain⟨fr',q1,q2,q3⟩:=ZS L run k fr hp wr l i h h25
  refine⟨fr',hp,wr,bu q1,q2,?_,rfl⟩
  rw[q3]
  simpa [T.cZ] using hO
 | n+1,c,x,fr,hp,wr,out,hc,hx,h9,h,h25,h5,hO=>by
  obtain⟨fr1,hp1,wr1,q1,q2,q3,q4,q5,q6⟩:=MW L run k fr hp wr l out i c x hx (by omega) (by omega) h h25 h5 hO
  obtain⟨fr',hp',wr',s1,s2,s3,s4⟩:=CY L run k l i n (c+1) (x / 10) fr1 hp1 wr1 _ (by omega) (Nat.le_trans (Nat.div_le_self _ _) hx) (by simp;omega) q2 q3 q4 q5
  refine⟨fr',hp',wr',by rw[bT q1];exact s1,s2,?_,by rw[s4,q6]⟩
  rw[append_assoc] at s3
  exact s3
theorem PN {C:Cfg}{run:aw}{k:Nat}{a b c:Code}{st st':St}(h:ae C run k (.seq a b) st=some (.normal,st')):ae C run k (.seq a (.seq b c)) st=ae C run k c st':=by
 simp only[ae] at h ⊢
 cases e:ae C run k a st with
 | none=>rw[e] at h;cases h
 | some r =>
  obtain⟨x,s⟩:=r
  rw[e] at h
  cases x with
  | normal=>simp only at h ⊢;rw[h]
  | _=>simp at h
theorem ZP(l:Ω)(h:WF fr l l.length) :
  ∃ fr',ae (CC L) run k wxO ⟨fr,hp,wr⟩=some (.exit 0,⟨fr',hp,wr⟩)∧WF fr' l l.length∧nth fr' 3=nth fr 3:=by
 obtain⟨h0,h1,h19,h20,h21⟩:=h
 simp only[iv] at h20 h21
 simp[WF,iv,wxO,wxC,f98,aA,h0,h1,h19,h20,h21]
theorem aiP(l:Ω)(i:Nat)(hi:i<l.length)(h:WF fr l i) :
  ∃ fr1 fr',ae (CC L) run k afe ⟨fr,hp,wr⟩=some (.normal,⟨fr1,hp,wr⟩)∧ae (CC L) run k afd ⟨fr1,hp,wr⟩=some (.normal,⟨fr1,hp,wr⟩)∧ae (CC L) run k (.seq ZR ZQ) ⟨fr1,hp,wr⟩=some (.normal,⟨fr',hp,wr⟩)∧WF fr' l i∧nth fr' 25=iv 0∧nth fr' 5 = .sc (.int .u32 (l[i]:Int))∧nth fr' 3=nth fr 3:=by
 obtain⟨h0,h1,h19,h20,h21⟩:=h
 have hd:=eM l i hi
 have e1:aP l = .imm l.length false (l.map dg):=rfl
 have e2:dg l[i] = .sc (.int .u32 (l[i]:Int)):=rfl
 rw[e1] at h19
 rw[e2] at hd
 generalize l[i]=d at *
 simp only[iv] at h20 h21
 refine⟨eX fr 22 (.sc (.bool true)),?_⟩
 simp[WF,e1,iv,afe,afd,ZR,ZQ,blk,aQ,wxO,wxC,f98,aA,bd,bn,partOf,h0,h1,h19,h20,h21,hi,hd,uD,s32,a32,aU]
theorem aiO(l:Ω)(i:Nat)(hi:i<1000000)(h:WF fr l i) :
  ∃ fr',ae (CC L) run k Rx ⟨fr,hp,wr⟩=some (.normal,⟨fr',hp,wr⟩)∧WF fr' l (i+1)∧nth fr' 3=nth fr 3:=by
 obtain⟨h0,h1,h19,h20,h21⟩:=h
 have hw:=bD i (by omega)
 simp only[iv] at h20 h21
 simp[WF,iv,Rx,aQ,wxO,wxC,f98,aA,h0,h1,h19,h20,h21,hw]
theorem CX (L:Lst)(run:aw)(k:Nat)(hk:10≤k)(l:Ω)(hl:Dok l)(h9:l.length<1000000):∀ (n i:Nat) (fr:Ψ) (hp:Θ) (wr out:Ω),i+n=l.length→out.length=9*i→WF fr l i→dt u8v 1 hp out (nth fr 3) →
  ∃ (fr':Ψ) (hp':Θ) (wr':Ω),cb (ae (CC L) run k wxO) (n+1) ⟨fr,hp,wr⟩=some (.exit 0,⟨fr',hp',wr'⟩)∧WF fr' l l.length∧dt u8v 1 hp' (out++((l.drop i).flatMap (T.cZ 9)).map (· + 48)) (nth fr' 3)∧aL hp' 0=aL hp 0
 | 0,i,fr,hp,wr,out,hin,ho,h,hO=>by
  have:i=l.length:=by omega
  subst this
  obtain⟨fr',q1,q2,q3⟩:=ZP L run k fr hp wr l h
  refine⟨fr',hp,wr,bu q1,q2,?_,rfl⟩
  rw[q3]
  simpa using hO
 | n+1,i,fr,hp,wr,out,hin,ho,h,hO=>by
  have hi:i<l.length:=by omega
  obtain⟨fr1,fr2,a1,a2,a3,a4,a5,a6,a7⟩:=aiP L run k fr hp wr l i hi h
  have hd:=hl.get hi
  obtain⟨fr3,hp3,wr3,b1,b2,b3,b4⟩:=CY L run k l i 9 0 l[i] fr2 hp wr out (by omega) (by omega) (by omega) a4 a5 a6 (by rw[a7];exact hO)
  obtain⟨fr4,c1,c2,c3⟩:=aiO L run k fr3 hp3 wr3 l i (by omega) b2
  have hgo:ae (CC L) run k wxO ⟨fr,hp,wr⟩=some (.normal,⟨fr4,hp3,wr3⟩):=by
   rw[afc,ar a1,ar a2]
   have hb1:=bE (i:=2) (bK b1 hk)
   have hb2:ae (CC L) run k (.seq ZR (.seq ZQ (.block 2 (.loop wxI)))) ⟨fr1,hp,wr⟩=some (.normal,⟨fr3,hp3,wr3⟩):=by
    rw[PN a3];exact hb1
   rw[ar (fF hb2)]
   exact c1
  obtain⟨fr',hp',wr',s1,s2,s3,s4⟩:=CX L run k hk l hl h9 n (i+1) fr4 hp3 wr3 (out++(T.cZ 9 l[i]).map (· + 48)) (by omega) (by rw[length_append,length_map,T.dn];omega) c2 (by rw[c3];exact b3)
  refine⟨fr',hp',wr',by rw[bT hgo];exact s1,s2,?_,by rw[s4,b4]⟩
  rw[append_assoc] at s3
  rw[drop_eq_getElem_cons hi,flatMap_cons,map_append]
  exact s3
def wxT:Code:=(aA (seq1 (ai 4 wxC))).getD .skip
theorem vJ (l:Ω)(i:Nat)(h:i<l.length):(bp (l.map u8v) i).head?=some (.sc (.int .u8 (at0 l i:Int))):=by
 rw[mV l i h,dc h];rfl
theorem ZM(lz:Ω)(id n:Nat)(hn:n+1≤lz.length)(hn9:n<100000000)(hz:at0 lz n≠48)(h0:fr.length=81)(h1:nth fr 1 = .ptr 0 0)(h3:nth fr 3 = .own id 1 0 (n+1) false)(hb:aL hp id=some ⟨.live,lz.map u8v⟩) :
  ∃ fr',ae (CC L) run k wxT ⟨fr,hp,wr⟩=some (.exit 4,⟨fr',hp,wr⟩)∧fr'.length=81∧nth fr' 1 = .ptr 0 0∧nth fr' 3 = .own id 1 0 (n+1) false:=by
 have hd:=vJ lz n (by omega)
 have hw:bA .i64 (n:Int)=(n:Int):=cq .i64 n (hiI (by omega))
 have hz1:((at0 lz n:Int) == 48)=false:=by rw[beq_eq_false_iff_ne];omega
 generalize at0 lz n=a at *
 have hz2 : ¬ ((a:Int)=48):=by omega
 simp[wxT,wxC,f98,aA,bL,bd,bn,partOf,iw,h0,h1,h3,hb,hd,hw,hz1,qK,sU8,a8,aU]
theorem MT(lz:Ω)(id n:Nat)(hn:n+1≤lz.length)(hn9:n<100000000)(hz:at0 lz n=48)(h0:fr.length=81)(h1:nth fr 1 = .ptr 0 0)(h3:nth fr 3 = .own id 1 0 (n+1) false)(hb:aL hp id=some ⟨.live,lz.map u8v⟩) :
  ∃ fr',ae (CC L) run k wxT ⟨fr,hp,wr⟩=some (.normal,⟨fr',hp,wr⟩)∧fr'.length=81∧nth fr' 1 = .ptr 0 0∧nth fr' 3 = .own id 1 0 n false:=by
 have hd:=vJ lz n (by omega)
 have hw:bA .i64 (n:Int)=(n:Int):=cq .i64 n (hiI (by omega))
 rw[hz] at hd
 simp[wxT,wxC,f98,aA,bL,bd,bn,partOf,iw,h0,h1,h3,hb,hd,hw,qK,sU8,a8,aU,dw,iJ,bnd,fv,gK]
theorem CV (L:Lst)(run:aw)(k:Nat)(hp:Θ)(wr:Ω)(lz:Ω)(id:Nat)(hb:aL hp id=some ⟨.live,lz.map u8v⟩):∀ (n:Nat) (fr:Ψ),n+1≤lz.length→n<100000000→(∃ m,m<n+1∧at0 lz m≠48)→fr.length=81→nth fr 1 = .ptr 0 0→nth fr 3 = .own id 1 0 (n+1) false →
  ∃ fr' c,cb (ae (CC L) run k wxT) (n+1) ⟨fr,hp,wr⟩=some (.exit 4,⟨fr',hp,wr⟩)∧fr'.length=81∧nth fr' 1 = .ptr 0 0∧nth fr' 3 = .own id 1 0 (c+1) false∧c≤n∧at0 lz c≠48∧∀ j,c<j→j<n+1→at0 lz j=48
 | n,fr,hn,hn9,hm,h0,h1,h3=>by
  by_cases hz:at0 lz n=48
  ·obtain⟨m,hm1,hm2⟩:=hm
   cases n with
   | zero =>
    have:m=0:=by omega
    subst this
    exact absurd hz hm2
   | succ n =>
    have hmn:m≠n+1:=fun e=>hm2 (by rw[e];exact hz)
    obtain⟨fr1,q1,q2,q3,q4⟩:=MT L run k fr hp wr lz id (n+1) hn hn9 hz h0 h1 h3 hb
    obtain⟨fr',c,s1,s2,s3,s4,s5,s6,s7⟩:=CV L run k hp wr lz id hb n fr1 (by omega) (by omega) ⟨m,by omega,hm2⟩ q2 q3 q4
    refine⟨fr',c,by rw[bT q1];exact s1,s2,s3,s4,by omega,s6,fun j hj hj2 => ?_⟩
    by_cases e:j=n+1
    ·rw[e];exact hz
    ·exact s7 j hj (by omega)
  ·obtain⟨fr',q1,q2,q3,q4⟩:=ZM L run k fr hp wr lz id n hn hn9 hz h0 h1 h3 hb
   exact⟨fr',n,bu q1,q2,q3,q4,Nat.le_refl _,hz,fun j h1 h2=>by omega⟩
def wxN:Code:=seq1 (ai 5 wxC)
theorem Ry(m:Bool)(l dd:Ω)(h9:l.length<90000000)(h0:fr.length=81)(h1:nth fr 1 = .ptr 0 0)(hb:aL hp 0=some ⟨.live,[.sc (.bool m),aP dd]⟩)(hO:dt u8v 1 hp l (nth fr 3)) :
  ∃ fr' hp' wr',ae (CC L) run k wxN ⟨fr,hp,wr⟩=some (.normal,⟨fr',hp',wr'⟩)∧fr'.length=81∧dt u8v 1 hp' (l++(bif m then [45] else [])) (nth fr' 3):=by
 cases m with
 | false =>
  simp[wxN,wxC,f98,bM,partOf,h0,h1,hb,hO,aU,bp,uW,wf0,wf1,sB,aB]
 | true =>
  obtain⟨p',hp',fp,g1,g2,g3⟩:=hO.app 45 (by omega)
  have hlX:fY TT 43 1 [(0,.sc (.int .u8 45))]=some (1,[u8v 45]):=Mg 45
  simp[wxN,wxC,f98,bM,partOf,bg,lX,h0,h1,hb,hlX,Lm,tq,qK,sU8,bU8,zU8,ch,g1,g2,aU,bp,uW,wf0,wf1,sB,aB]
def wxS:Code:=(aA (seq1 (ai 6 wxC))).getD .skip
def MU:Code:=blk (seq1 (aQ wxS))
theorem aiN:((Region.before (gG MU))[13]?.getD 0).testBit 7=true:=by kernel_rfl
theorem aiM:((Region.before (gG MU))[13]?.getD 0).testBit 11=true:=by kernel_rfl
theorem aiL:((Region.before (gG MU))[15]?.getD 0).testBit 7=true:=by kernel_rfl
theorem aiK:((Region.before (gG MU))[15]?.getD 0).testBit 11=true:=by kernel_rfl
theorem aiJ:((Region.before (gG MU))[15]?.getD 0).testBit 13=true:=by kernel_rfl
theorem ZN(i j:Nat)(hij:j≤i+1)(h0:fr.length=81)(h6:nth fr 6=iv i)(h7:nth fr 7 = .sc (.int .i64 ((j:Int) - 1))) :
  ∃ fr',ae (CC L) run k wxS ⟨fr,hp,wr⟩=some (.exit 6,⟨fr',hp,wr⟩)∧fr'.length=81∧nth fr' 3=nth fr 3:=by
 have hlt : ¬ ((i:Int)<(j:Int) - 1):=by omega
 simp only[iv] at h6
 simp[wxS,wxC,f98,aA,h0,h6,h7,hlt]
set_option maxHeartbeats 8000000 in
theorem MV(lz:Ω)(id n i j:Nat)(hn9:n<100000000)(hn:n≤lz.length)(hb:aL hp id=some ⟨.live,lz.map u8v⟩)(hij:i<j)(hj:j<n)(h0:fr.length=81)(h3:nth fr 3 = .own id 1 0 n false)(h6:nth fr 6=iv i)(h7:nth fr 7 = .sc (.int .i64 (j:Int))) :
  ∃ fr' wr',ae (CC L) run k wxS ⟨fr,hp,wr⟩=some (.normal,⟨fr',cg (cg hp id ⟨.live,(lz.set i (at0 lz j)).map u8v⟩) id ⟨.live,((lz.set i (at0 lz j)).set j (at0 lz i)).map u8v⟩,wr'⟩)∧fr'.length=81∧nth fr' 3 = .own id 1 0 n false∧nth fr' 6=iv (i+1)∧nth fr' 7 = .sc (.int .i64 ((j:Int) - 1)):=by
 have hin:i<n:=by omega
 have hil:i<lz.length:=by omega
 have hjl:j<lz.length:=by omega
 have hw1:=cM j (Nat.lt_trans (Nat.lt_trans hj hn9) (by decide))
 have hwi:=bD i (Nat.lt_trans (Nat.lt_trans hin hn9) (by decide))
 have hd1:=vJ lz i hil
 have hd2:=vJ lz j hjl
 have hov:=mK (e:=u8v) lz i (at0 lz j) hil
 have hov2:=mK (e:=u8v) (lz.set i (at0 lz j)) j (at0 lz i) (by rw[length_set];exact hjl)
 have hsb:aL (cg hp id ⟨.live,(lz.set i (at0 lz j)).map u8v⟩) id=some ⟨.live,(lz.set i (at0 lz j)).map u8v⟩:=by rw[cI hb,if_pos rfl]
 generalize at0 lz i=a at *
 generalize at0 lz j=c at *
 have hb1:=aiN
 have hb2:=aiM
 have hb3:=aiL
 have hb4:=aiK
 have hb5:=aiJ
 simp[-Nat.testBit_zero,MU,wxS,wxC,blk,f98,aA,aQ,gG] at hb1 hb2 hb3 hb4 hb5
 simp only[iv] at h6 ⊢
 simp[-Nat.testBit_zero,-map_set,hb1,hb2,hb3,hb4,hb5,wxS,wxC,f98,aA,bd,bn,partOf,bg,F0,lX,h0,h3,h6,h7,qK,sU8,a8,aU,hb,hsb,hij,hin,hj,hw1,hwi,hd1,hd2,hov,hov2,aeH a,aeH c,number,FP.free,cw,FP.apart]
theorem C6:∀ {ds:Ω},Dok ds→T.val (ds.flatMap (T.cZ 9))=val ds
 | [],_=>rfl
 | a::l,h=>by
  have h1:T.val (T.cZ 9 a)=a:=T.fo 9 a (Nat.lt_of_lt_of_le h.head (by decide))
  rw[flatMap_cons,T.ik,h1,T.dn,C6 h.tail]
  rfl
theorem LG:∀ (ds:Ω),T.Dok (ds.flatMap (T.cZ 9))
 | []=>T.Dok.nil
 | a::l=>by rw[flatMap_cons];exact (T.gD 9 a).append (LG l)
theorem zF {F:Ω}(h:∀ m,m<F.length→at0 F m=0):T.val F=0:=by
 have:F=List.replicate F.length 0:=Cr (by simp) fun m hm=>by rw[h m hm,dc (by simpa using hm)];simp
 rw[this,T.oO]
theorem RO {F:Ω}(h:T.val F≠0):∃ m,m<F.length∧at0 F m≠0:=by
 apply Classical.byContradiction
 intro hn
 refine h (zF fun m hm => ?_)
 apply Classical.byContradiction
 intro he
 exact hn ⟨m,hm,he⟩
theorem aem (F:Ω)(m:Nat)(h:m<F.length):at0 (F.map (· + 48)) m=at0 F m+48:=by
 rw[dc (by simpa using h),dc h];simp
theorem M8 {F:Ω}(hF:T.Dok F){c:Nat}(hc:c<F.length)(h1:at0 F c≠0)(h2:∀ j,c<j→j<F.length→at0 F j=0):F.take (c+1)=T.aJ (T.val F):=by
 have e:=(take_append_drop (c+1) F)
 have hz:T.val (F.drop (c+1))=0:=zF fun m hm=>by
  have:at0 (F.drop (c+1)) m=at0 F (c+1+m):=by unfold at0;rw[getElem?_drop]
  rw[this]
  rw[length_drop] at hm
  exact h2 _ (by omega) (by omega)
 have hv:T.val F=T.val (F.take (c+1)):=by
  conv=>lhs;rw[← e]
  rw[T.ik,hz,Nat.mul_zero,Nat.add_zero]
 rw[hv]
 refine (T.kD (hF.take _) ?_).symm
 intro m a ea
 have hl:=congrArg List.length ea
 rw[length_take,Nat.min_eq_left (by omega),length_append] at hl
 simp only[length_cons,length_nil] at hl
 have h3:at0 (F.take (c+1)) c=a:=by
  rw[ea];unfold at0
  rw[getElem?_append_right (by omega)]
  have:c - m.length=0:=by omega
  rw[this];rfl
 have h4:at0 (F.take (c+1)) c=at0 F c:=by unfold at0;rw[getElem?_take_of_lt (by omega)]
 rw[← h3,h4]
 exact h1
def ZO:Code:=seq1 (seq1 (ai 3 wxC))
def KQ:Code:=seq1 (seq1 (ai 6 wxC))
theorem ae7:ai 3 wxC = .seq (.seq ZO (.block 0 (.loop wxO))) (ai 4 wxC):=rfl
theorem ae6:ai 4 wxC = .seq (.block 4 (.loop wxT)) (ai 5 wxC):=rfl
theorem ae5:ai 5 wxC = .seq wxN (ai 6 wxC):=rfl
theorem ae4:ai 6 wxC = .seq (.seq KQ (.block 6 (.loop wxS))) (ai 7 wxC):=rfl
theorem ZK(m:Bool):∃ st,ae (CC L) run k wxC ⟨entry 81 [.agg [.sc (.bool m),aP []]],[],[]⟩=some (.ret,st)∧aX TT st.fr st.hp f98.results.toList=some [zs 0]:=by
 obtain⟨e1,e2⟩:=cO 80 (.agg [.sc (.bool m),aP []])
 generalize entry 81 [.agg [.sc (.bool m),aP []]]=fr0 at *
 have hz:zs 0 = .sc (.string { data:=#[48] }):=rfl
 rw[hz]
 simp[wxC,f98,e1,e2,bL,bM,partOf,cm,bm,aO,aL,aU,bp,uW,uD,wf0,wf1,sD,aD]
theorem afa (L:Lst)(run:aw)(k:Nat)(m:Bool)(l:Ω)(hl:l≠[]) :
  ∃ fr wr,bh (CC L) run k 2 wxC ⟨entry 81 [.agg [.sc (.bool m),aP l]],[],[]⟩=some ⟨fr,[⟨.live,[.sc (.bool m),aP l]⟩],wr⟩∧fr.length=81∧nth fr 1 = .ptr 0 0:=by
 obtain⟨e1,e2⟩:=cO 80 (.agg [.sc (.bool m),aP l])
 generalize entry 81 [.agg [.sc (.bool m),aP l]]=fr0 at *
 have hl0:((l.length:Int) == 0)=false:=by
  rw[beq_eq_false_iff_ne]
  have:l.length≠0:=fun e=>hl (length_eq_zero_iff.1 e)
  omega
 simp[wxC,f98,bh,e1,e2,bL,bM,partOf,cm,bm,aO,aL,aU,bp,uW,uD,wf0,wf1,sD,aD,hl0]
def afb:Code:=seq1 (ai 2 wxC)
theorem ae8:ai 2 wxC = .seq afb (ai 3 wxC):=rfl
theorem aiI (L:Lst)(run:aw)(k:Nat)(fr:Ψ)(b:Blk)(wr:Ω)(m:Bool)(l:Ω)(c:Nat)(hb:b=⟨.live,[.sc (.bool m),aP l]⟩)(hw1:bA .i64 (9*(l.length:Int))=(c:Int))(hw2:bA .i64 ((c:Int)+1)=(c:Int)+1)(hm2:c+1≤cS)(h0:fr.length=81)(h1:nth fr 1 = .ptr 0 0) :
  ∃ fr' wr',ae (CC L) run k afb ⟨fr,[b],wr⟩=some (.normal,⟨fr',[b,⟨.live,[]⟩],wr'⟩)∧fr'.length=81∧nth fr' 1 = .ptr 0 0∧nth fr' 3 = .own 1 1 0 0 false:=by
 subst hb
 simp[afb,wxC,f98,h0,h1,bL,bM,j9,jr,partOf,cm,aO,aL,aU,bp,uW,uD,wf0,wf1,sD,aD,hw1,hw2,hm2,qK,sU8,bU8,zU8,ch,rep]
theorem aiH(m:Bool)(l:Ω)(h0:fr.length=81)(h1:nth fr 1 = .ptr 0 0)(hb:aL hp 0=some ⟨.live,[.sc (.bool m),aP l]⟩) :
  ∃ fr',ae (CC L) run k ZO ⟨fr,hp,wr⟩=some (.normal,⟨fr',hp,wr⟩)∧WF fr' l 0∧nth fr' 3=nth fr 3:=by
 simp[WF,iv,ZO,wxC,f98,h0,h1,hb,bL,bM,partOf,cm,aU,bp,uW,uD,wf0,wf1,sD,aD]
theorem ae9(n:Nat)(hn9:n<100000000)(h0:fr.length=81)(h3:cX (nth fr 3)=some n) :
  ∃ fr',ae (CC L) run k KQ ⟨fr,hp,wr⟩=some (.normal,⟨fr',hp,wr⟩)∧fr'.length=81∧nth fr' 3=nth fr 3∧nth fr' 6=iv 0∧nth fr' 7 = .sc (.int .i64 ((n:Int) - 1)):=by
 have hw:=cM n (by omega)
 simp[iv,KQ,wxC,f98,h0,h3,bL,qK,hw]
theorem ZL(l:Ω)(hl:Bok l)(h0:fr.length=81)(hO:dt u8v 1 hp l (nth fr 3)) :
  ∃ st,ae (CC L) run k (ai 7 wxC) ⟨fr,hp,wr⟩=some (.ret,st)∧aX TT st.fr st.hp f98.results.toList=some [.sc (.string (tx l))]:=by
 obtain⟨ids,h1⟩:=hO.s.rd
 have h2:=Gg hl
 have hcv:dD TT hp 43 94 (nth fr 3)=some (.sc (.string (tx l)),ids):=by
  have h3:tx l=mkStr (l.map UInt8.ofNat):=rfl
  rw[h3]
  obtain⟨-,h⟩:=hO
  rcases h with ⟨rfl,h⟩| ⟨id,m,-,-,h,-⟩
  ·rw[h] at h1 ⊢
   simp only[dD,qK,uAI,u8T,h1,h2]
  ·rw[h] at h1 ⊢
   simp only[dD,qK,uAI,u8T,h1,h2]
 simp[wxC,f98,h0,hcv]
theorem CW (L:Lst)(run:aw)(k:Nat)(l z:Ω)(id n:Nat)(hn9:n<100000000)(hn:l.length=n):∀ (d i:Nat) (fr:Ψ) (hp:Θ) (wr cur:Ω),i+d=n / 2→cur.length=n→id<hp.length→aL hp id=some ⟨.live,(cur++z).map u8v⟩ →
  (∀ m,m<n→at0 cur m=if m<i∨n - i≤m then at0 l (n - 1 - m) else at0 l m)→fr.length=81→nth fr 3 = .own id 1 0 n false→nth fr 6=iv i→nth fr 7 = .sc (.int .i64 ((n:Int) - 1 - i)) →
  ∃ (fr':Ψ) (hp':Θ) (wr':Ω),cb (ae (CC L) run k wxS) (d+1) ⟨fr,hp,wr⟩=some (.exit 6,⟨fr',hp',wr'⟩)∧fr'.length=81∧nth fr' 3 = .own id 1 0 n false∧id<hp'.length∧aL hp' id=some ⟨.live,(l.reverse++z).map u8v⟩
 | 0,i,fr,hp,wr,cur,hd,hc,hid,hb,hI,h0,h3,h6,h7=>by
  obtain⟨fr',g1,g2,g3⟩:=ZN L run k fr hp wr i (n - i) (by omega) h0 h6 (by rw[h7];congr 2;omega)
  have e:cur=l.reverse:=Cr (by simp[hc,hn]) fun m hm=>by
   rw[hc] at hm
   rw[hI m hm,ML l m (by omega),hn]
   by_cases h1:m<i∨n - i≤m
   ·rw[if_pos h1]
   ·rw[if_neg h1]
    congr 1
    omega
  refine⟨fr',hp,wr,bu g1,g2,by rw[g3,h3],hid,?_⟩
  rw[← e];exact hb
 | d+1,i,fr,hp,wr,cur,hd,hc,hid,hb,hI,h0,h3,h6,h7=>by
  obtain⟨j,hj⟩:∃ j,n=i+j+1:=⟨n - i - 1,by omega⟩
  have hij:i<j:=by omega
  obtain⟨fr1,wr1,g1,g2,g3,g4,g5⟩:=MV L run k fr hp wr (cur++z) id n i j hn9 (by simp;omega) hb hij (by omega) h0 h3 h6 (by rw[h7];congr 2;omega)
  have ha:at0 (cur++z) i=at0 cur i:=by unfold at0;rw[getElem?_append_left (by omega)]
  have hb':at0 (cur++z) j=at0 cur j:=by unfold at0;rw[getElem?_append_left (by omega)]
  have e1:((cur++z).set i (at0 cur j)).set j (at0 cur i)=((cur.set i (at0 cur j)).set j (at0 cur i))++z:=by
   rw[set_append_left _ _ (by omega),set_append_left _ _ (by rw[length_set];omega)]
  rw[ha,hb',e1] at g1
  have hb1:aL (cg (cg hp id ⟨.live,((cur++z).set i (at0 cur j)).map u8v⟩) id ⟨.live,(((cur.set i (at0 cur j)).set j (at0 cur i))++z).map u8v⟩) id=some ⟨.live,(((cur.set i (at0 cur j)).set j (at0 cur i))++z).map u8v⟩:=by
   rw[cI (b0:=⟨.live,((cur++z).set i (at0 cur j)).map u8v⟩) (by rw[cI hb,if_pos rfl]),if_pos rfl]
  have hai:=hI i (by omega)
  have haj:=hI j (by omega)
  rw[if_neg (by omega)] at hai haj
  obtain⟨fr',hp',wr',q1,q2⟩:=CW L run k l z id n hn9 hn d (i+1) fr1 _ wr1 ((cur.set i (at0 cur j)).set j (at0 cur i)) (by omega) (by simp[hc]) (by rw[bJ,bJ];exact hid) hb1
   (fun m hm=>by
    rw[nj _ _ _ _ (by rw[length_set];omega),nj _ _ _ _ (by omega)]
    by_cases e2:m=j
    ·rw[if_pos e2,hai,if_pos (by omega)]
     congr 1
     omega
    ·rw[if_neg e2]
     by_cases e3:m=i
     ·rw[if_pos e3,haj,if_pos (by omega)]
      congr 1
      omega
     ·rw[if_neg e3,hI m hm]
      by_cases e4:m<i∨n - i≤m
      ·rw[if_pos e4,if_pos (by omega)]
      ·rw[if_neg e4,if_neg (by omega)]) g2 g3 g4 (by rw[g5];congr 2;omega)
  exact⟨fr',hp',wr',by rw[bT g1];exact q1,q2⟩
theorem M7(z:Int)(hz:z≠0)(h9:(aJ z.natAbs).length<1000000)(hk:9*(aJ z.natAbs).length+20≤k) :
  ∃ st,ae (CC L) run k wxC ⟨entry 81 [br z],[],[]⟩=some (.ret,st)∧aX TT st.fr st.hp f98.results.toList=some [zs z]:=by
 have hne:aJ z.natAbs≠[]:=fun e=>hz (by have:=yr e;omega)
 have hv:val (aJ z.natAbs)=z.natAbs:=bX _
 have hok:=bU z.natAbs
 have hm:∃ m,m=bz z:=⟨_,rfl⟩
 obtain⟨m,hm⟩:=hm
 have hz2:=iq z
 rw[← hm] at hz2
 show ∃ st,ae (CC L) run k wxC ⟨entry 81 [.agg [.sc (.bool (bz z)),aP (aJ z.natAbs)]],[],[]⟩=some (.ret,st)∧_
 rw[← hm]
 have hz3:z.natAbs≠0:=by omega
 generalize aJ z.natAbs=ds at *
 obtain⟨fra,wra,z1,z2,z3⟩:=afa L run k m ds hne
 rw[aY 2 z1,ae8]
 obtain⟨fr,wr,a1,a2,a3,a4⟩:=aiI L run k fra _ wra m ds (9*ds.length) rfl (by rw[show 9*(ds.length:Int)=((9*ds.length:Nat):Int) by omega];exact cq .i64 _ (hiI (Nat.le_trans (show 9*ds.length≤9000000 by omega) (by decide)))) (bD _ (Nat.lt_of_le_of_lt (show 9*ds.length≤9000000 by omega) (by decide))) (Nat.le_trans (show 9*ds.length+1≤9000001 by omega) (by decide)) z2 z3
 rw[ar a1,ae7]
 obtain⟨fr1,b1,b2,b3⟩:=aiH L run k fr [⟨.live,[.sc (.bool m),aP ds]⟩,⟨.live,[]⟩] wr m ds a2 a3 rfl
 have hO:dt u8v 1 [⟨.live,[.sc (.bool m),aP ds]⟩,⟨.live,[]⟩] [] (nth fr1 3):=by
  rw[b3,a4]
  exact⟨by simp,.inr ⟨1,[],by simp,by simp,rfl,rfl⟩⟩
 obtain⟨fr2,hp2,wr2,c1,c2,c3,c4⟩:=CX L run k (by omega) ds hok h9 ds.length 0 fr1 _ wr [] (by omega) rfl b2 hO
 have hgo:=bE (i:=0) (bK c1 (show ds.length+1≤k by omega))
 have hA:ae (CC L) run k (.seq ZO (.block 0 (.loop wxO))) ⟨fr,[⟨.live,[.sc (.bool m),aP ds]⟩,⟨.live,[]⟩],wr⟩=some (.normal,⟨fr2,hp2,wr2⟩):=by
  rw[ar b1];exact hgo
 rw[ar hA,ae6]
 obtain⟨h0,h1,-⟩:=c2
 rw[nil_append,drop_zero] at c3
 have hF:=LG ds
 have hFv:=C6 hok
 have hFl:(ds.flatMap (T.cZ 9)).length=9*ds.length:=by
  have:=(Sc1.ec jl)
  rw[length_flatMap]
  simp only[T.dn]
  rw[map_const',sum_replicate_nat,Nat.mul_comm]
 generalize ds.flatMap (T.cZ 9)=F at *
 obtain⟨-,hO2⟩:=c3
 rcases hO2 with ⟨e,-⟩| ⟨id,mm,i1,i2,i3,i4⟩
 ·have:F.length=0:=by have:=congrArg List.length e;simpa using this
  have:ds.length≠0:=fun e=>hne (length_eq_zero_iff.1 e)
  omega
 ·have hdl:ds.length≠0:=fun e=>hne (length_eq_zero_iff.1 e)
  rw[length_map] at i3
  obtain⟨n,hn⟩:∃ n,F.length=n+1:=⟨F.length - 1,by omega⟩
  obtain⟨p,hp1,hp2'⟩:=RO (F:=F) (by rw[hFv,hv];exact hz3)
  have at_lz:∀ j,j<F.length→at0 (F.map (· + 48)++mm) j=at0 F j+48:=fun j hj=>by
   rw[← aem F j hj]
   unfold at0
   rw[getElem?_append_left (by simpa using hj)]
  rw[hn] at i3
  obtain⟨fr3,c,s1,s2,s3,s4,s5,s6,s7⟩:=CV L run k hp2 wr2 (F.map (· + 48)++mm) id i4 n fr2 (by simp;omega) (by omega) ⟨p,by omega,by rw[at_lz p hp1];omega⟩ h0 h1 i3
  rw[ar (bE (i:=4) (bK s1 (show n+1≤k by omega))),ae5]
  have hcF:c<F.length:=by omega
  have hT:F.take (c+1)=T.aJ z.natAbs:=by
   rw[← hv,← hFv]
   refine M8 hF hcF ?_ fun j h1 h2 => ?_
   ·rw[at_lz c hcF] at s6;omega
   ·have:=s7 j h1 (by omega)
    rw[at_lz j h2] at this
    omega
  have hO3:dt u8v 1 hp2 ((T.aJ z.natAbs).map (· + 48)) (nth fr3 3):=by
   refine⟨by omega,.inr ⟨id,(F.drop (c+1)).map (· + 48)++mm,i1,i2,?_,?_⟩⟩
   ·rw[s4,← hT];simp;omega
   ·rw[i4,← hT,← append_assoc,← map_append,take_append_drop]
  have hlen:(T.aJ z.natAbs).length<90000000:=by rw[← hT,length_take];omega
  have hb0:aL hp2 0=some ⟨.live,[.sc (.bool m),aP ds]⟩:=by rw[c4];rfl
  obtain⟨fr4,hp4,wr4,t1,t2,t3⟩:=Ry L run k fr3 hp2 wr2 m _ ds (by simpa using hlen) s2 s3 hb0 hO3
  rw[ar t1,ae4]
  generalize hl:(T.aJ z.natAbs).map (· + 48)++(bif m then [45] else [])=l at *
  have hll:l.length≤(T.aJ z.natAbs).length+1:=by
   rw[← hl];cases m <;> simp
  have hlk:(T.aJ z.natAbs).length≤9*ds.length:=by rw[← hT,length_take];omega
  obtain⟨fr5,u1,u2,u3,u4,u5⟩:=ae9 L run k fr4 hp4 wr4 l.length (by omega) t2 t3.s.len
  have hO4:=t3
  obtain⟨-,hO4⟩:=hO4
  rcases hO4 with ⟨e,-⟩| ⟨id',z',j1,j2,j3,j4⟩
  ·have h2:(T.aJ z.natAbs).length≤l.length:=by rw[← hl];simp
   rw[e,length_nil] at h2
   have:=T.cT.2 hz3
   omega
  ·obtain⟨fr6,hp6,wr6,v1,v2,v3,v4,v5⟩:=CW L run k l z' id' l.length (by omega) rfl (l.length / 2) 0 fr5 hp4 wr4 l (by omega) rfl j2 j4 (fun m hm=>by rw[if_neg (by omega)]) u2 (by rw[u3,j3]) u4 (by rw[u5];simp)
   have hB:ae (CC L) run k (.seq KQ (.block 6 (.loop wxS))) ⟨fr4,hp4,wr4⟩=some (.normal,⟨fr6,hp6,wr6⟩):=by
    rw[ar u1];exact bE (i:=6) (bK v1 (show l.length / 2+1≤k by omega))
   rw[ar hB]
   have hr:l.reverse=ztx z:=by
    rw[← hl,reverse_append,← map_reverse]
    have:ztx z=itx m z.natAbs:=by rw[vI,hz2]
    rw[this,itx,if_neg hz3]
    cases m <;> rfl
   have hO5:dt u8v 1 hp6 (ztx z) (nth fr6 3):=by
    refine⟨by omega,.inr ⟨id',z',j1,v4,?_,?_⟩⟩
    ·rw[v3,← hr,length_reverse]
    ·rw[v5,hr]
   exact ZL L run k fr6 hp6 wr6 (ztx z) (lq z) v2 hO5
def RW:Ψ→Option Ψ:=ctr (fun z:Int=>[br z]) (fun z=>Nb 2000000 z) fun z=>[zs z]
theorem W8 {x y:Int}(hx:Sm x)(hy:Sm y)(h:br x=br y):x=y:=by
 have h1:=cK hx
 rw[h,cK hy] at h1
 exact (Option.some.inj h1).symm
theorem M6:Ab.Spec base.P 98 RW:=Ab.Spec.bS (C:=CC []) (cR trivial) fun args rs h=>by
 obtain⟨z,hz,rfl,rfl⟩:=db h
 have h9:(aJ z.natAbs).length<400000:=hz.sm (by omega)
 by_cases h0:z=0
 ·subst h0
  obtain⟨st,x1,x2⟩:=ZK [] (runK (CC []) 1) 1 false
  exact⟨2,_,_,_,_,_,ba Bt rfl x1 x2,rfl,Wk.refl rfl,trivial⟩
 ·obtain⟨st,x1,x2⟩:=M7 [] (runK (CC []) (9*(aJ z.natAbs).length+20)) (9*(aJ z.natAbs).length+20) z h0 (by omega) (by omega)
  exact⟨_,_,_,_,_,_,ba Bt rfl x1 x2,rfl,Wk.refl rfl,trivial⟩
theorem Y5 {L:Lst}(hL:bx L 98=fun a=>RW (aK a))(run:aw)(z:Int){k:Nat}(hz:Nb k z)(hk:k≤2000000):az L run 98 [br z] (zs z) :=
 ji aar hL (fun x y hx hy h=>by
  have h1:br x=br y:=by simpa using h
  rw[W8 (hx.sm (by omega)) (hy.sm (by omega)) h1]) run z (hz.mono hk) (nk · z) (j6 z)
end Go.Proofs.YtjdmodeenbdfpaaGreat
end
