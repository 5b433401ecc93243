/- Contracts of numbers kept as digits in text, part 35; each lemma states its conditions. -/
import Derived.Test.YtjdmodeenbdfpaaGreatU34
import Derived.Test.YtjdmodeenbdfpaaGreatU28
import Derived.Test.YtjdmodeenbdfpaaGreatU13
import Derived.Test.YtjdmodeenbdfpaaGreatU14
set_option linter.unusedSimpArgs false
set_option linter.unusedVariables false
namespace Go.Proofs.YtjdmodeenbdfpaaGreat
open Go Go.Ab List Tryz
def qI (n d:Int):Int:=n / (Nat.gcd n.natAbs d.natAbs:Nat)
def pH (n d:Int):Int:=d / (Nat.gcd n.natAbs d.natAbs:Nat)
def zS:Ψ→Option Ψ
 | [p,q]=>match fL p,fL q with
  | some n,some d=>bif decide (0<d) then some [qs (qI n d) (pH n d)] else
    bif decide (d<0) && ((ew n).blt fO && (ew d).blt fO) then some [qs (qI (-n) (-d)) (pH (-n) (-d))] else none
  | _,_=>none
 | _=>none
theorem zP:Ab.Spec base.P 67 zS:=Ab.Spec.bL (C:=CC LT9) (cP XR) fun args rs h=>by
 unfold zS at h
 split at h
 ·split at h
  ·rename_i n d ex ey
   obtain⟨rfl,hn⟩:=dj ex
   obtain⟨rfl,hd⟩:=dj ey
   have h00:Zm 0:=by unfold Zm;decide
   have gc:=acx (runK (CC LT9) 1) d 0 hd h00
   by_cases hp:0<d
   ·rw[decide_eq_true hp] at h
    simp only[cond_true,OiE] at h
    subst h
    obtain⟨f1,a1,a2,a3,a4⟩:=SR LT9 (runK (CC LT9) 1) 1 (tx (ztx n)) (tx (ztx d)) _ (by unfold fX;rw[if_neg (by omega),if_neg (by omega)];omega) gc
    obtain⟨st,x1,x2⟩:=zO (runK (CC LT9) 1) 1 f1 n d hn hd hp a2 a3 a4
    have hx:ae (CC LT9) (runK (CC LT9) 1) 1 ky ⟨entry 37 [zs n,zs d],[],[]⟩=some (.ret,st):=(aU 2 a1).trans x1
    exact⟨2,_,_,_,_,_,aZ yF rfl hx x2,rfl,Wk.refl rfl,trivial⟩
   ·rw[decide_eq_false hp] at h
    simp only[cond_false] at h
    by_cases hng:d<0
    ·rw[decide_eq_true hng,Bool.true_and] at h
     cases hb:(ew n).blt fO && (ew d).blt fO with
     | false=>rw[hb] at h;cases h
     | true =>
      rw[hb] at h
      simp only[cond_true,OiE] at h
      subst h
      simp only[Bool.and_eq_true,Nat.blt_eq] at hb
      obtain⟨f1,a1,a2,a3,a4⟩:=SU LT9 (runK (CC LT9) 1) 1 (tx (ztx n)) (tx (ztx d)) _ _ _ (by unfold fX;rw[if_pos hng];omega) gc (B9 _ n hn) (B9 _ d hd)
      obtain⟨st,x1,x2⟩:=zO (runK (CC LT9) 1) 1 f1 (-n) (-d) (Zm.neg hn hb.1) (Zm.neg hd hb.2) (by omega) a2 a3 a4
      have hx:ae (CC LT9) (runK (CC LT9) 1) 1 ky ⟨entry 37 [zs n,zs d],[],[]⟩=some (.ret,st):=(aU 2 a1).trans x1
      exact⟨2,_,_,_,_,_,aZ yF rfl hx x2,rfl,Wk.refl rfl,trivial⟩
    ·rw[decide_eq_false hng] at h
     cases h
  ·cases h
 ·cases h
def pt:PV→Option (Int × Int)
 | .sc (.string s)=>match fL (.sc (.string (tx (spl (bys s)).1))),fL (.sc (.string (tx (spl (bys s)).2.1))) with
  | some n,some d=>bif decide (bys s=qtx n d) && decide (0<d) then some (n,d) else none
  | _,_=>none
 | _=>none
theorem kf {p:PV}{n d:Int}(h:pt p=some (n,d)):p=qs n d∧Zm n∧Zm d∧0<d:=by
 unfold pt at h
 split at h
 ·rename_i s
  split at h
  ·rename_i n' d' e1 e2
   cases hb:decide (bys s=qtx n' d') && decide (0<d') with
   | false=>rw[hb] at h;cases h
   | true =>
    rw[hb] at h
    simp only[cond_true,OiE,PiE] at h
    obtain⟨rfl,rfl⟩:=h
    simp only[Bool.and_eq_true,decide_eq_true_eq] at hb
    refine⟨?_,(dj e1).2,(dj e2).2,hb.2⟩
    rw[qs,← hb.1,im]
  ·cases h
 ·cases h
theorem WC {n d:Int}(hn:Zm n)(hd:Zm d)(h0:0<d):pt (qs n d)=some (n,d):=by
 have e1:fL (.sc (.string (tx (ztx n))))=some n:=cJ n hn
 have e2:fL (.sc (.string (tx (ztx d))))=some d:=cJ d hd
 simp only[pt,qs,jH (Ij n d),Bo,e1,e2,decide_eq_true h0,decide_true,Bool.and_self,cond_true]
def pI:Ψ→Option Ψ
 | [p]=>match pt p with
  | some (n,d)=>some [qs (-n) d]
  | none=>none
 | _=>none
theorem wM:Ab.Spec base.P 122 pI:=Ab.Spec.bL (C:=CC LT9) (cP XR) fun args rs h=>by
 unfold pI at h
 split at h
 ·split at h
  ·rename_i n d e
   obtain⟨rfl,hn,hd,h0⟩:=kf e
   simp only[OiE] at h
   subst h
   have h1:(ztx n).length≤3000000:=hn
   have h2:(ztx d).length≤3000000:=hd
   have h3:(ztx (-n)).length≤4000000:=by
    rw[gV] at h1 ⊢
    rw[CG]
    cases bw (-n) <;> simp <;> omega
   obtain⟨st,x1,x2⟩:=HC LT9 (runK (CC LT9) 1) 1 n d (-n) h3 (by omega) (agb _ n d hn hd) (B9 _ n hn)
   exact⟨2,_,_,_,_,_,aZ JL rfl x1 x2,rfl,Wk.refl rfl,trivial⟩
  ·cases h
 ·cases h
noncomputable def ot:Lst:=[(65,kx),(68,tX),(66,iy),(69,mf),(67,zS),(122,pI)]
theorem Me:dt base.P ot:=⟨oK,zX,nB,pK,zP,wM,trivial⟩
theorem abc:bC ot 65=fun a=>kx (aK a):=rfl
theorem abb:bC ot 68=fun a=>tX (aK a):=rfl
theorem abd:bC ot 66=fun a=>iy (aK a):=rfl
theorem Uv:bC ot 67=fun a=>zS (aK a):=rfl
theorem oV (run:av)(n d:Int)(hn:Zm n)(hd:Zm d):aA ot run 65 [qs n d] (.tup [zs n,zs d,.sc (.bool (!decide (d=1)))]):=fun dr hp =>
 bq jZ abc run dr hp _ [zs n,zs d,.sc (.bool (!decide (d=1)))] rfl rfl (GL n d hn hd)
theorem rB (run:av)(x y:Int)(hx:Zm x)(hy:Zm y):aA ot run 68 [zs x,zs y] (zs (x*y)):=fun dr hp =>
 bq wm abb run dr hp _ [zs (x*y)] rfl rfl (by simp only[tX,cJ x hx,cJ y hy])
theorem Fg (run:av)(n d:Int)(hn:Zm n)(hd:Zm d)(h0:0<d):aA ot run 67 [zs n,zs d] (qs (qI n d) (pH n d)):=fun dr hp =>
 bq Ry Uv run dr hp _ [qs (qI n d) (pH n d)] rfl rfl (by simp only[zS,cJ n hn,cJ d hd,decide_eq_true h0,cond_true])
theorem Nw (L:Lst)(run:av)(k:Nat)(s t a b c d e f r:ByteArray)(u v:Bool)(g1:aA L run 65 [.sc (.string s)] (.tup [.sc (.string a),.sc (.string b),.sc (.bool u)]))(g2:aA L run 65 [.sc (.string t)] (.tup [.sc (.string c),.sc (.string d),.sc (.bool v)]))
  (g3:aA L run 68 [.sc (.string a),.sc (.string c)] (.sc (.string e))) (g4:aA L run 68 [.sc (.string b),.sc (.string d)] (.sc (.string f))) (g5:aA L run 67 [.sc (.string e),.sc (.string f)] (.sc (.string r))) :
  ∃ st,ae (CC L) run k (f34.body.getD .skip) ⟨entry 30 [.sc (.string s),.sc (.string t)],[],[]⟩=some (.ret,st)∧aY TT st.fr st.hp f34.results.toList=some [.sc (.string r)]:=by
 obtain⟨e1,e2,e3⟩:=cb 28 (.sc (.string s)) (.sc (.string t))
 generalize entry 30 [.sc (.string s),.sc (.string t)]=fr0 at *
 unfold aA at *
 simp[f34,e1,e2,e3,ae,aH,aq,ar,aF,ag,ah,aM,an,aj,aC,aG,FzZ,au,aa,af,ab,g1,g2,g3,g4,g5,aY]
def zmB (z:Int):Bool:=(ztx z).length.ble fO
theorem sj {z:Int}(h:zmB z=true):Zm z:=by unfold zmB at h;rw[Nat.ble_eq] at h;exact h
def wJ:Ψ→Option Ψ
 | [p,q]=>match pt p,pt q with
  | some (n,d),some (m,k)=>bif zmB (n*m) && zmB (d*k) then some [qs (qI (n*m) (d*k)) (pH (n*m) (d*k))] else none
  | _,_=>none
 | _=>none
theorem zM:Ab.Spec base.P 34 wJ:=Ab.Spec.bL (C:=CC ot) (cP Me) fun args rs h=>by
 unfold wJ at h
 split at h
 ·split at h
  ·rename_i n d m k ex ey
   obtain⟨rfl,hn,hd,hd0⟩:=kf ex
   obtain⟨rfl,hm,hk,hk0⟩:=kf ey
   cases hb:zmB (n*m) && zmB (d*k) with
   | false=>rw[hb] at h;cases h
   | true =>
    rw[hb] at h
    simp only[cond_true,OiE] at h
    subst h
    simp only[Bool.and_eq_true] at hb
    obtain⟨st,x1,x2⟩:=Nw ot (runK (CC ot) 1) 1 _ _ _ _ _ _ _ _ _ _ _ (oV _ n d hn hd) (oV _ m k hm hk) (rB _ n m hn hm) (rB _ d k hd hk) (Fg _ _ _ (sj hb.1) (sj hb.2) (Int.mul_pos hd0 hk0))
    exact⟨2,_,_,_,_,_,aZ Cx rfl x1 x2,rfl,Wk.refl rfl,trivial⟩
  ·cases h
 ·cases h
theorem LA (run:av)(x y:Int)(hx:Zm x)(hy:Zm y):aA ot run 66 [zs x,zs y] (zs (x+y)):=fun dr hp =>
 bq sy abd run dr hp _ [zs (x+y)] rfl rfl (by simp only[iy,cJ x hx,cJ y hy])
theorem HB (L:Lst)(run:av)(k:Nat)(s t a b c d r:ByteArray)(u v:Bool)(hb:eo .eql b { data:=#[49] } = some (.bool true))(hd:eo .eql d { data:=#[49] } = some (.bool true))(g1:aA L run 65 [.sc (.string s)] (.tup [.sc (.string a),.sc (.string b),.sc (.bool u)]))(g2:aA L run 65 [.sc (.string t)] (.tup [.sc (.string c),.sc (.string d),.sc (.bool v)]))
  (g3:aA L run 66 [.sc (.string a),.sc (.string c)] (.sc (.string r))) :
  ∃ st,ae (CC L) run k (f24.body.getD .skip) ⟨entry 43 [.sc (.string s),.sc (.string t)],[],[]⟩=some (.ret,st)∧aY TT st.fr st.hp f24.results.toList=some [.sc (.string r)]:=by
 obtain⟨e1,e2,e3⟩:=cb 41 (.sc (.string s)) (.sc (.string t))
 generalize entry 43 [.sc (.string s),.sc (.string t)]=fr0 at *
 unfold aA at *
 simp[f24,e1,e2,e3,ae,aH,aq,ar,aF,ag,ah,aM,an,aj,aC,aG,FzZ,ba,au,aa,af,ab,g1,g2,g3,hb,hd,aY]
theorem HA (L:Lst)(run:av)(k:Nat)(s t a b c d e f g h r:ByteArray)(u v w1 w2:Bool)(hw:(w1 && w2)=false)(hb:eo .eql b { data:=#[49] } = some (.bool w1))(hd:eo .eql d { data:=#[49] } = some (.bool w2))(g1:aA L run 65 [.sc (.string s)] (.tup [.sc (.string a),.sc (.string b),.sc (.bool u)]))(g2:aA L run 65 [.sc (.string t)] (.tup [.sc (.string c),.sc (.string d),.sc (.bool v)]))
  (g3:aA L run 68 [.sc (.string a),.sc (.string d)] (.sc (.string e))) (g4:aA L run 68 [.sc (.string c),.sc (.string b)] (.sc (.string f))) (g5:aA L run 66 [.sc (.string e),.sc (.string f)] (.sc (.string g))) (g6:aA L run 68 [.sc (.string b),.sc (.string d)] (.sc (.string h))) (g7:aA L run 67 [.sc (.string g),.sc (.string h)] (.sc (.string r))) :
  ∃ st,ae (CC L) run k (f24.body.getD .skip) ⟨entry 43 [.sc (.string s),.sc (.string t)],[],[]⟩=some (.ret,st)∧aY TT st.fr st.hp f24.results.toList=some [.sc (.string r)]:=by
 obtain⟨e1,e2,e3⟩:=cb 41 (.sc (.string s)) (.sc (.string t))
 generalize entry 43 [.sc (.string s),.sc (.string t)]=fr0 at *
 unfold aA at *
 cases w1 <;> cases w2 <;> simp only[Bool.and_true,Bool.and_false,Bool.and_self,Bool.true_eq_false] at hw <;> simp[f24,e1,e2,e3,ae,aH,aq,ar,aF,ag,ah,aM,an,aj,aC,aG,FzZ,ba,au,aa,af,ab,g1,g2,g3,g4,g5,g6,g7,hb,hd,undef,aY]
def wL:Ψ→Option Ψ
 | [p,q]=>match pt p,pt q with
  | some (n,d),some (m,k)=>bif decide (d=1) && decide (k=1) then some [qs (n+m) 1] else
    bif zmB (n*k) && (zmB (m*d) && (zmB (n*k+m*d) && zmB (d*k))) then some [qs (qI (n*k+m*d) (d*k)) (pH (n*k+m*d) (d*k))] else none
  | _,_=>none
 | _=>none
theorem zT:Ab.Spec base.P 24 wL:=Ab.Spec.bL (C:=CC ot) (cP Me) fun args rs h=>by
 unfold wL at h
 split at h
 ·split at h
  ·rename_i n d m k ex ey
   obtain⟨rfl,hn,hd,hd0⟩:=kf ex
   obtain⟨rfl,hm,hk,hk0⟩:=kf ey
   cases hw:decide (d=1) && decide (k=1) with
   | true =>
    rw[hw] at h
    simp only[cond_true,OiE] at h
    subst h
    simp only[Bool.and_eq_true,decide_eq_true_eq] at hw
    obtain⟨rfl,rfl⟩:=hw
    obtain⟨st,x1,x2⟩:=HB ot (runK (CC ot) 1) 1 _ _ _ _ _ _ _ _ _ (jl 1) (jl 1) (oV _ n 1 hn hd) (oV _ m 1 hm hk) (LA _ n m hn hm)
    exact⟨2,_,_,_,_,_,aZ uH rfl x1 x2,rfl,Wk.refl rfl,trivial⟩
   | false =>
    rw[hw] at h
    simp only[cond_false] at h
    cases hb:zmB (n*k) && (zmB (m*d) && (zmB (n*k+m*d) && zmB (d*k))) with
    | false=>rw[hb] at h;cases h
    | true =>
     rw[hb] at h
     simp only[cond_true,OiE] at h
     subst h
     simp only[Bool.and_eq_true] at hb
     obtain⟨b1,b2,b3,b4⟩:=hb
     obtain⟨st,x1,x2⟩:=HA ot (runK (CC ot) 1) 1 _ _ _ _ _ _ _ _ _ _ _ _ _ _ _ hw (jl d) (jl k) (oV _ n d hn hd) (oV _ m k hm hk) (rB _ n k hn hk) (rB _ m d hm hd) (LA _ _ _ (sj b1) (sj b2)) (rB _ d k hd hk) (Fg _ _ _ (sj b3) (sj b4) (Int.mul_pos hd0 hk0))
     exact⟨2,_,_,_,_,_,aZ uH rfl x1 x2,rfl,Wk.refl rfl,trivial⟩
  ·cases h
 ·cases h
def Nb (k:Nat)(z:Int):Prop:=z.natAbs<10 ^ k
def Rb (k:Nat)(x:Rat):Prop:=Nb k x.num∧Nb k x.den
theorem Nb.mono {j k:Nat}{z:Int}(h:Nb j z)(hk:j≤k):Nb k z:=Nat.lt_of_lt_of_le h (Nat.pow_le_pow_right (by omega) hk)
theorem Rb.mono {j k:Nat}{z:Rat}(h:Rb j z)(hk:j≤k):Rb k z:=⟨h.1.mono hk,h.2.mono hk⟩
theorem Nb.sm {k:Nat}{z:Int}(h:Nb k z)(hk:k≤2000000):Sm z:=by
 have h1:z.natAbs<1000000000 ^ (k / 9+1):=by
  refine Nat.lt_of_lt_of_le h ?_
  have:(1000000000:Nat)=10 ^ 9:=by decide
  rw[this,← Nat.pow_mul]
  exact Nat.pow_le_pow_right (by omega) (by omega)
 exact Nat.lt_of_le_of_lt (di h1) (by omega)
theorem Nb.smB {k:Nat}{z:Int}(h:Nb k z)(hk:k≤2000000):smB z=true:=by
 unfold YtjdmodeenbdfpaaGreat.smB
 rw[Nat.blt_eq]
 have hN:0<11000000:=by decide
 have hK:4*k≤11000000:=by omega
 generalize 11000000=N at hN hK ⊢
 by_cases h0:z.natAbs=0
 ·rw[h0];exact hN
 ·rw[Nat.log2_lt h0]
  refine Nat.lt_of_lt_of_le h ?_
  have:(10:Nat) ^ k≤16 ^ k:=Nat.pow_le_pow_left (by omega) k
  refine Nat.le_trans this ?_
  have e:(16:Nat)=2 ^ 4:=by decide
  rw[e,← Nat.pow_mul]
  exact Nat.pow_le_pow_right (by decide) hK
theorem Nb.ew {k:Nat}{z:Int}(h:Nb k z):ew z≤k+1:=by
 unfold Ab.ew
 rw[tj (by omega)]
 exact Nat.lt_of_lt_of_le h (Nat.pow_le_pow_right (by omega) (by omega))
theorem Nb.zm {k:Nat}{z:Int}(h:Nb k z)(hk:k≤2000000):Zm z:=by
 unfold Zm
 rw[gV]
 have:=h.ew
 unfold fO
 cases bw z <;> simp <;> omega
theorem Nb.zmB {k:Nat}{z:Int}(h:Nb k z)(hk:k≤2000000):zmB z=true:=by
 unfold YtjdmodeenbdfpaaGreat.zmB
 rw[Nat.ble_eq]
 exact h.zm hk
theorem Nb.mul {j k:Nat}{x y:Int}(h:Nb j x)(h':Nb k y):Nb (j+k) (x*y):=by
 unfold Nb at *
 rw[Int.natAbs_mul,Nat.pow_add]
 exact Nat.mul_lt_mul'' h h'
theorem Nb.add {k:Nat}{x y:Int}(h:Nb k x)(h':Nb k y):Nb (k+1) (x+y):=by
 unfold Nb at *
 have:=Int.natAbs_add_le x y
 rw[Nat.pow_succ]
 omega
theorem Nb.neg {k:Nat}{x:Int}(h:Nb k x):Nb k (-x):=by unfold Nb at *;rw[Int.natAbs_neg];exact h
theorem Nb.div {k:Nat}{x:Int}(h:Nb k x)(g:Nat):Nb k (x / g):=by
 unfold Nb at *
 refine Nat.lt_of_le_of_lt ?_ h
 exact Int.natAbs_ediv_le_natAbs x g
theorem Nb.den {k:Nat}{x:Rat}(h:Rb k x):Nb k x.den:=h.2
theorem qH (x y:Rat):qI (x.num*y.den+y.num*x.den) (x.den*y.den)=(x+y).num:=by
 rw[Rat.add_def,Rat.normalize_eq]
 simp only[qI,Int.natAbs_mul,Int.natAbs_natCast]
theorem qJ (x y:Rat):pH (x.num*y.den+y.num*x.den) (x.den*y.den)=((x+y).den:Int):=by
 rw[Rat.add_def,Rat.normalize_eq]
 simp only[pH,Int.natAbs_mul,Int.natAbs_natCast]
 simp
theorem wC (x y:Rat):qI (x.num*y.num) (x.den*y.den)=(x*y).num:=by
 rw[Rat.mul_def,Rat.normalize_eq]
 simp only[qI,Int.natAbs_mul,Int.natAbs_natCast]
theorem wD (x y:Rat):pH (x.num*y.num) (x.den*y.den)=((x*y).den:Int):=by
 rw[Rat.mul_def,Rat.normalize_eq]
 simp only[pH,Int.natAbs_mul,Int.natAbs_natCast]
 simp
theorem Rb.mul {j k:Nat}{x y:Rat}(h:Rb j x)(h':Rb k y):Rb (j+k) (x*y):=by
 constructor
 ·rw[← wC];exact (h.1.mul h'.1).div _
 ·rw[← wD];exact (h.2.mul h'.2).div _
theorem Rb.add {j k:Nat}{x y:Rat}(h:Rb j x)(h':Rb k y):Rb (j+k+1) (x+y):=by
 constructor
 ·rw[← qH]
  refine (Nb.add (h.1.mul h'.2) ?_).div _
  rw[Nat.add_comm]
  exact h'.1.mul h.2
 ·rw[← qJ];exact ((h.2.mul h'.2).div _).mono (by omega)
theorem Rb.neg {k:Nat}{x:Rat}(h:Rb k x):Rb k (-x):=by
 constructor
 ·rw[Rat.neg_num];exact h.1.neg
 ·rw[Rat.neg_den];exact h.2
theorem Rb.sub {j k:Nat}{x y:Rat}(h:Rb j x)(h':Rb k y):Rb (j+k+1) (x - y):=by
 rw[Rat.sub_eq_add_neg];exact h.add h'.neg
theorem Rb.zero (k:Nat):Rb (k+1) 0:=⟨Nat.pow_pos (by omega),Nat.one_lt_pow (by omega) (by omega)⟩
theorem Rb.one (k:Nat):Rb (k+1) 1:=⟨Nat.one_lt_pow (by omega) (by omega),Nat.one_lt_pow (by omega) (by omega)⟩
def rv:Option Rat→PV
 | none=>ch 0 0
 | some x=>ch x.num x.den
def vv:Option Rat→Rat
 | none=>0
 | some x=>x
theorem ZN (u:Option Rat):∃ b,rv u=ch (vv u).num b∧dB b=(vv u).den∧(∀ k,Rb (k+1) (vv u)→Nb (k+1) b):=by
 cases u with
 | none=>exact⟨0,rfl,rfl,fun k _=>Nat.pow_pos (by omega)⟩
 | some x =>
  refine⟨x.den,rfl,?_,fun k h=>h.2⟩
  have:=x.den_pos
  unfold dB
  rw[if_neg (by omega)]
  rfl
theorem ju (n d:Int)(h:0<d):kD n d=qI n d∧kE n d=pH n d:=by
 have hg:n.natAbs % Nat.gcd n.natAbs d.natAbs=0:=Nat.mod_eq_zero_of_dvd (Nat.gcd_dvd_left _ _)
 have hg0:0<Nat.gcd n.natAbs d.natAbs:=Nat.gcd_pos_of_pos_right _ (by omega)
 unfold kD kE qI pH
 have hn:bw d=false:=by rw[cK];simp;omega
 rw[hn,cond_false]
 generalize Nat.gcd n.natAbs d.natAbs=g at *
 constructor
 ·obtain⟨q,hq⟩:=Nat.dvd_of_mod_eq_zero hg
  have hq2:n.natAbs / g=q:=by rw[hq];exact Nat.mul_div_cancel_left _ (by omega)
  rw[hq2]
  unfold sgn
  rw[cK]
  have hgq:((g*q:Nat):Int)=(g:Int)*q:=by simp
  by_cases hs:n<0
  ·have h2:n=(g:Int)*(-(q:Int)):=by
    rw[Int.mul_neg,← hgq,← hq];omega
   rw[decide_eq_true hs,cond_true,Int.negOfNat_eq]
   conv=>rhs;rw[h2]
   rw[Int.mul_ediv_cancel_left _ (by omega)]
   rfl
  ·have h2:n=(g:Int)*(q:Int):=by
    rw[← hgq,← hq];omega
   rw[decide_eq_false hs,cond_false]
   conv=>rhs;rw[h2]
   rw[Int.mul_ediv_cancel_left _ (by omega)]
   rfl
 ·obtain⟨m,rfl⟩:=Int.eq_ofNat_of_zero_le (Int.le_of_lt h)
  simp
theorem lZ (n d:Int)(h:0<d):(Rat.divInt n d).num=qI n d∧((Rat.divInt n d).den:Int)=pH n d:=by
 obtain⟨m,rfl⟩:=Int.eq_ofNat_of_zero_le (Int.le_of_lt h)
 rw[Rat.divInt_ofNat,Rat.mkRat_def,dif_neg (by omega),Rat.normalize_eq]
 exact⟨rfl,by simp[pH]⟩
theorem ur (n d:Int)(h:d≠0):kD n d=(Rat.divInt n d).num∧kE n d=(Rat.divInt n d).den:=by
 by_cases hd:0<d
 ·rw[(ju n d hd).1,(ju n d hd).2,(lZ n d hd).1,(lZ n d hd).2];exact⟨rfl,rfl⟩
 ·have e1:kD n d=kD (-n) (-d):=by
   have h1:bw d=true:=by rw[cK];simp;omega
   have h2:bw (-d)=false:=by rw[cK];simp;omega
   unfold kD
   rw[h1,h2,Int.natAbs_neg,Int.natAbs_neg]
   rfl
  have e2:kE n d=kE (-n) (-d):=by unfold kE;rw[Int.natAbs_neg,Int.natAbs_neg]
  rw[e1,e2,← Rat.neg_divInt_neg,(ju _ _ (by omega:0 < -d)).1,(ju _ _ (by omega:0 < -d)).2,(lZ _ _ (by omega:0 < -d)).1,(lZ _ _ (by omega:0 < -d)).2]
  exact⟨rfl,rfl⟩
theorem Ja (x y:Rat):x / y=Rat.divInt (x.num*y.den) (x.den*y.num):=by
 rw[Rat.div_def,Rat.inv_def]
 conv=>lhs;rw[← Rat.num_divInt_den x]
 rw[Rat.divInt_mul_divInt]
def fI (x y:Rat):Int:=if x<y then -1 else if x=y then 0 else 1
theorem yn (x y:Rat):fX (x.num*y.den) (y.num*x.den)=fI x y:=by
 unfold fX fI
 by_cases h:x<y
 ·rw[if_pos h,if_pos ((Rat.lt_iff x y).1 h)]
 ·rw[if_neg h,if_neg (fun e=>h ((Rat.lt_iff x y).2 e))]
  have hi:x.num*y.den=y.num*x.den ↔ x=y:=by
   constructor
   ·intro e
    have h1:x≤y:=(Rat.le_iff x y).2 (Int.le_of_eq e)
    have h2:y≤x:=(Rat.le_iff y x).2 (Int.le_of_eq e.symm)
    exact Rat.le_antisymm h1 h2
   ·intro e;rw[e]
  by_cases h2:x=y
  ·rw[if_pos h2,if_pos (hi.2 h2)]
  ·rw[if_neg h2,if_neg (fun e=>h2 (hi.1 e))]
def Bx (x:Rat):Int:=x.num.sign
theorem qF {u:Option Rat}{k:Nat}(h:Rb k (vv u))(hk:k≤2000000):∃ b,rv u=ch (vv u).num b∧dB b=(vv u).den∧gC (rv u)=some ((vv u).num,b)∧Nb k b:=by
 obtain⟨b,h1,h2,h3⟩:=ZN u
 cases u with
 | none =>
  refine⟨0,rfl,rfl,gT (h.1.sm hk) (by unfold Sm;decide),Nat.pow_pos (by omega)⟩
 | some x =>
  have:=x.den_pos
  refine⟨x.den,rfl,?_,gT (h.1.sm hk) (h.2.sm hk),h.2⟩
  unfold dB
  rw[if_neg (by omega)]
  rfl
theorem oG (x:Rat):rv (some x)=ch x.num x.den:=rfl
theorem Wy (x:Rat):(x.den:Int)≠0:=by have:=x.den_pos;omega
theorem An (n:Int)(x y:Rat):qV n (x.den*y.den)=true:=by
 have h1:=x.den_pos
 have h2:=y.den_pos
 unfold qV
 rw[Int.natAbs_mul,Int.natAbs_natCast,Int.natAbs_natCast]
 have:x.den*y.den≠0:=Nat.ne_of_gt (Nat.mul_pos h1 h2)
 simp only[Bool.not_eq_true']
 cases e:(x.den*y.den).beq 0 with
 | false=>rfl
 | true=>exact absurd (Nat.eq_of_beq_eq_true e) this
theorem SM {u v:Option Rat}{j k:Nat}(hu:Rb j (vv u))(hv:Rb k (vv v))(h:j+k≤1000000):ly [rv u,rv v]=some [rv (some (vv u+vv v))]:=by
 obtain⟨b,b1,b2,b3,b4⟩:=qF hu (by omega)
 obtain⟨d,d1,d2,d3,d4⟩:=qF hv (by omega)
 have g1:=hu.1.mul hv.2
 have g2:=hv.1.mul hu.2
 rw[Nat.add_comm k j] at g2
 have g3:=hu.2.mul hv.2
 have g4:=An ((vv u).num*(vv v).den+(vv v).num*(vv u).den) (vv u) (vv v)
 have hp:(0:Int)<(vv u).den*(vv v).den:=Int.mul_pos (by have:=(vv u).den_pos;omega) (by have:=(vv v).den_pos;omega)
 simp only[ly,b3,d3,b2,d2,g1.smB (by omega),g2.smB (by omega),(g1.add g2).smB (by omega),g3.smB (by omega),g4,Bool.and_self,cond_true,oG,(ju _ _ hp).1,(ju _ _ hp).2,qH,qJ]
theorem Sg {u v:Option Rat}{j k:Nat}(hu:Rb j (vv u))(hv:Rb k (vv v))(h:j+k≤1000000):qG [rv u,rv v]=some [rv (some (vv u*vv v))]:=by
 obtain⟨b,b1,b2,b3,b4⟩:=qF hu (by omega)
 obtain⟨d,d1,d2,d3,d4⟩:=qF hv (by omega)
 have g1:=hu.1.mul hv.1
 have g3:=hu.2.mul hv.2
 have g4:=An ((vv u).num*(vv v).num) (vv u) (vv v)
 have hp:(0:Int)<(vv u).den*(vv v).den:=Int.mul_pos (by have:=(vv u).den_pos;omega) (by have:=(vv v).den_pos;omega)
 simp only[qG,b3,d3,b2,d2,g1.smB (by omega),g3.smB (by omega),g4,Bool.and_self,cond_true,oG,(ju _ _ hp).1,(ju _ _ hp).2,wC,wD]
theorem SK {u v:Option Rat}{j k:Nat}(hu:Rb j (vv u))(hv:Rb k (vv v))(h:j+k≤1000000):lv [rv u,rv v]=some [Ab.bJ (fI (vv u) (vv v))]:=by
 obtain⟨b,b1,b2,b3,b4⟩:=qF hu (by omega)
 obtain⟨d,d1,d2,d3,d4⟩:=qF hv (by omega)
 have g1:=hu.1.mul hv.2
 have g2:=hv.1.mul hu.2
 simp only[lv,b3,d3,b2,d2,g1.smB (by omega),g2.smB (by omega),Bool.and_self,cond_true,yn]
def Sf:Option Rat→Option Rat
 | none=>none
 | some x=>some (-x)
theorem QL (u:Option Rat):vv (Sf u) = - vv u:=by cases u <;> rfl
theorem Se {u:Option Rat}{j:Nat}(hu:Rb j (vv u))(h:j≤1000000):nm [rv u]=some [rv (Sf u)]:=by
 obtain⟨b,b1,b2,b3,b4⟩:=qF hu (by omega)
 cases u with
 | none=>rfl
 | some x =>
  have h2:gC (ch x.num x.den)=some (x.num,(x.den:Int)):=gT (hu.1.sm (by omega)) (hu.2.sm (by omega))
  simp only[nm,oG,h2,Sf,Rat.neg_num,Rat.neg_den]
theorem Sc {u v:Option Rat}{j k:Nat}(hu:Rb j (vv u))(hv:Rb k (vv v))(h:j+k≤1000000):tL [rv u,rv v]=some [rv (some (vv u - vv v))]:=by
 obtain⟨d,d1,d2,d3,d4⟩:=qF hv (by omega)
 have e:ch (-(vv v).num) d=rv (Sf v):=by
  have h1:=Se hv (by omega)
  simp only[nm,d3,OiE,List.cons.injEq,and_true] at h1
  exact h1
 have h2:Rb k (vv (Sf v)):=by rw[QL];exact hv.neg
 simp only[tL,d3,e,SM hu h2 h,QL,Rat.sub_eq_add_neg]
theorem rR (u:Option Rat):canon (rv u)=rv u:=by cases u <;> exact Cl _ _
theorem Pp (u:Option Rat):aK [rv u]=[rv u]:=by simp only[aK,rR]
theorem tn (u v:Option Rat):aK [rv u,rv v]=[rv u,rv v]:=by simp only[aK,rR]
theorem YV (hp:Θ)(d:Nat)(u:Option Rat):Ab.snap hp (d+2) (rv u)=some (rv u,[]):=by cases u <;> rfl
theorem Q9 (hp:Θ)(u:Option Rat):bu (snap hp bn) [rv u]=some ([rv u],[]):=by cases u <;> rfl
theorem v7 (hp:Θ)(u v:Option Rat):bu (snap hp bn) [rv u,rv v]=some ([rv u,rv v],[]):=by cases u <;> cases v <;> rfl
theorem ZA:base.shared 55=false:=by kernel_rfl
theorem ZC:base.shared 56=false:=by kernel_rfl
theorem ZD:base.shared 129=false:=by kernel_rfl
theorem ahg {L:Lst}(hL:bC L 55=fun a=>tL (aK a))(run:av){u v:Option Rat}{j k:Nat}(hu:Rb j (vv u))(hv:Rb k (vv v))(h:j+k≤1000000):aA L run 55 [rv u,rv v] (rv (some (vv u - vv v))):=fun dr hp =>
 bq ZA hL run dr hp _ [rv (some (vv u - vv v))] (v7 hp u v) (tn u v) (Sc hu hv h)
theorem XW {L:Lst}(hL:bC L 56=fun a=>qG (aK a))(run:av){u v:Option Rat}{j k:Nat}(hu:Rb j (vv u))(hv:Rb k (vv v))(h:j+k≤1000000):aA L run 56 [rv u,rv v] (rv (some (vv u*vv v))):=fun dr hp =>
 bq ZC hL run dr hp _ [rv (some (vv u*vv v))] (v7 hp u v) (tn u v) (Sg hu hv h)
theorem Cr {L:Lst}(hL:bC L 129=fun a=>lv (aK a))(run:av){u v:Option Rat}{j k:Nat}(hu:Rb j (vv u))(hv:Rb k (vv v))(h:j+k≤1000000):aA L run 129 [rv u,rv v] (Ab.bJ (fI (vv u) (vv v))):=fun dr hp =>
 bq ZD hL run dr hp _ [Ab.bJ (fI (vv u) (vv v))] (v7 hp u v) (tn u v) (SK hu hv h)
theorem agK {a b:Nat}(h:a.beq b=true):a=b:=Nat.eq_of_beq_eq_true h
theorem qe {a b:Nat}(h:a≠b):a.beq b=false:=by
 cases e:a.beq b with
 | false=>rfl
 | true=>exact absurd (agK e) h
theorem CU (z:Int):lh (ztx z)=true:=by
 have h3:ztx z=(bif bw z then [45] else [])++dtx z.natAbs:=si z
 rw[h3]
 have hd:=ob z.natAbs
 cases e:dtx z.natAbs with
 | nil=>exact absurd e (Wj _)
 | cons a r =>
  rw[e] at hd
  have ha:=dE.1 (fE hd mem_cons_self)
  have hh:vHd (a::r)=false:=by
   cases r with
   | nil=>rfl
   | cons b r=>exact qe (rF e)
  cases hn:bw z with
  | false =>
   simp only[cond_false,nil_append,lh,kP,qe (show a≠45 by omega),hh,hd]
   rfl
  | true =>
   have h48:a≠48:=by
    cases r with
    | nil =>
     intro ea
     rw[ea] at e
     exact Ld hn e
    | cons b r=>exact rF e
   have h45:(45:Nat).beq 45=true:=rfl
   simp only[cond_true,cons_append,nil_append,lh,kP,qe h48,cond_false,hh,hd,h45]
   rfl
theorem zi {l:Ω}(h:lh l=true):∃ z,l=ztx z:=by
 have key:∀ (m:Bool) (ds:Ω),vHd ds=false→eH ds=true→(m=true→ds≠[48])→∃ z,(bif m then [45] else [])++ds=ztx z:=by
  intro m ds h1 h2 h3
  refine⟨_,LY h2 (by intro e;subst e;simp[vHd] at h1) h3 ?_⟩
  intro a b l e ea
  subst e;subst ea
  simp[vHd] at h1
 unfold lh at h
 cases l with
 | nil=>simp[kP,vHd] at h
 | cons a l =>
  by_cases ha:a=45
  ·subst ha
   cases l with
   | nil=>simp[kP,vHd] at h
   | cons b l =>
    by_cases hb:b=48
    ·subst hb;simp[kP] at h
    ·have h45:(45:Nat).beq 45=true:=rfl
     simp only[kP,qe hb,cond_true,cond_false,h45,Bool.and_eq_true,Bool.not_eq_true'] at h
     obtain⟨z,hz⟩:=key true (b::l) h.1 h.2 (fun _ e=>hb (List.cons.inj e).1)
     exact⟨z,hz⟩
  ·simp only[kP,qe ha,cond_false,Bool.and_eq_true,Bool.not_eq_true'] at h
   obtain⟨z,hz⟩:=key false (a::l) h.1 h.2 nofun
   exact⟨z,hz⟩
def uZ (n:Bool):Ω→Bool
 | []=>true
 | [a]=>a.beq 48 && n
 | a::_=>a.beq 48
theorem adk (n:Bool)(s:ByteArray):px n (bO s)=uZ n (bys s):=by
 unfold bys
 cases bO s with
 | nil=>rfl
 | cons a l=>cases l <;> rfl
def isM:Ω→Bool
 | []=>false
 | a::_=>a.beq 45
theorem WG (s:ByteArray):yk s=isM (bys s):=by
 unfold yk bys iQ
 cases bO s with
 | nil=>rfl
 | cons a l =>
  show (Nat.ble 1 (l.length+1) && eqL [a] [45])=a.toNat.beq 45
  have:Nat.ble 1 (l.length+1)=true:=by rw[Nat.ble_eq];omega
  rw[this,Bool.true_and]
  simp only[eqL,Bool.and_true]
  by_cases h:a.toNat=45
  ·rw[h];rfl
  ·rw[qe h,beq_eq_false_iff_ne];exact h
theorem ags (s:ByteArray):bys (pS s)=bif isM (bys s) then (bys s).drop 1 else bys s:=by
 have:=WG s
 unfold yk at this
 unfold pS
 rw[this]
 cases isM (bys s) with
 | false=>rfl
 | true =>
  simp only[cond_true]
  unfold bys
  rw[fh,map_drop]
theorem DE (s:ByteArray):gE s=bif uZ (isM (bys s)) (bif isM (bys s) then (bys s).drop 1 else bys s) then none else bif eH (bif isM (bys s) then (bys s).drop 1 else bys s) then some (sgn (isM (bys s)) (dec 0 (bif isM (bys s) then (bys s).drop 1 else bys s))) else none:=by
 unfold gE
 rw[adk,ags,WG]
theorem R0 (m:Bool)(n:Nat):sgn m n=gD m n:=rfl
theorem Hy {s:ByteArray}{z:Int}(h:bys s=ztx z):gE s=some z:=by
 rw[DE,h]
 have h3:ztx z=(bif bw z then [45] else [])++dtx z.natAbs:=si z
 have hz:=ie z
 rw[h3]
 have hd:=ob z.natAbs
 have hv:=oZ z.natAbs
 cases e:dtx z.natAbs with
 | nil=>exact absurd e (Wj _)
 | cons a r =>
  rw[e] at hd hv
  have ha:=dE.1 (fE hd mem_cons_self)
  cases hn:bw z with
  | false =>
   have hb:uZ false (a::r)=false:=by
    cases r with
    | nil=>simp[uZ]
    | cons b r=>exact qe (rF e)
   simp only[cond_false,nil_append,isM,qe (show a≠45 by omega),hb,hd,cond_true,R0]
   rw[hv,← hn,hz]
  | true =>
   have hb:uZ true (a::r)=false:=by
    cases r with
    | nil =>
     have:a≠48:=by
      intro ea
      rw[ea] at e
      exact Ld hn e
     simp[uZ,qe this]
    | cons b r=>exact qe (rF e)
   have h45:(45:Nat).beq 45=true:=rfl
   simp only[cond_true,cons_append,nil_append,isM,h45,drop_succ_cons,drop_zero,hb,cond_false,hd,R0]
   rw[hv,← hn,hz]
theorem tP {s:ByteArray}{z:Int}(h:gE s=some z):bys s=ztx z:=by
 rw[DE] at h
 have key:∀ (m:Bool) (ds:Ω),uZ m ds=false→eH ds=true→some (sgn m (dec 0 ds))=some z→(bif m then [45] else [])++ds=ztx z:=by
  intro m ds h1 h2 h3
  simp only[OiE] at h3
  rw[← h3,R0]
  refine LY h2 (by intro e;subst e;simp[uZ] at h1) ?_ ?_
  ·rintro rfl rfl
   simp[uZ] at h1
  ·intro a b l e ea
   subst e;subst ea
   simp[uZ] at h1
 cases hm:isM (bys s) with
 | true =>
  rw[hm] at h
  simp only[cond_true] at h
  cases hb:uZ true ((bys s).drop 1) with
  | true=>rw[hb] at h;cases h
  | false =>
   rw[hb] at h
   simp only[cond_false] at h
   cases hd:eH ((bys s).drop 1) with
   | false=>rw[hd] at h;cases h
   | true =>
    rw[hd] at h
    simp only[cond_true] at h
    rw[← key true _ hb hd h]
    cases e:bys s with
    | nil=>rw[e] at hm;cases hm
    | cons a l =>
     rw[e] at hm
     rw[agK hm];rfl
 | false =>
  rw[hm] at h
  simp only[cond_false] at h
  cases hb:uZ false (bys s) with
  | true=>rw[hb] at h;cases h
  | false =>
   rw[hb] at h
   simp only[cond_false] at h
   cases hd:eH (bys s) with
   | false=>rw[hd] at h;cases h
   | true =>
    rw[hd] at h
    simp only[cond_true] at h
    exact key false _ hb hd h
theorem VJ:∀ l:List UInt8,Lib.indexByte l 47=match fK (l.map UInt8.toNat) with
  | some j=>(j:Int)
  | none => -1
 | []=>rfl
 | a::l=>by
  have ih:=VJ l
  simp only[Lib.indexByte,map_cons,fK]
  by_cases h:a.toNat=47
  ·have:(a == 47)=true:=by rw[beq_iff_eq,← UInt8.toNat_inj];exact h
   rw[this,if_pos rfl,h]
   rfl
  ·have:(a == 47)=false:=by rw[beq_eq_false_iff_ne,ne_eq,← UInt8.toNat_inj];exact h
   rw[this,if_neg (by simp),qe h,cond_false,ih]
   cases fK (l.map UInt8.toNat) with
   | none=>rfl
   | some j =>
    simp only[Option.map_some]
    have h1 : ¬ ((((j:Nat):Int) == -1)=true):=by
     rw[beq_iff_eq];omega
    rw[if_neg h1]
    rfl
theorem ach (s:ByteArray):idx s=match fK (bys s) with
  | some j=>(j:Int)
  | none => -1:=by
 unfold idx
 cases h:eqL [47] (bO s) with
 | false=>exact VJ (bO s)
 | true =>
  have h2:[47]=bO s:=by
   have h3:=Ab.tg [47] (bO s)
   rw[h] at h3
   exact eq_of_beq h3.symm
  unfold bys
  rw[← h2]
  rfl
theorem Fj:∀ {l:Ω} {j:Nat},fK l=some j→j<l.length
 | a::l,j,h=>by
  simp only[fK] at h
  cases e:a.beq 47 with
  | true=>rw[e] at h;simp at h;subst h;simp
  | false =>
   rw[e] at h
   simp only[cond_false,Option.map_eq_some_iff] at h
   obtain⟨i,hi,rfl⟩:=h
   have:=Fj hi
   simpa using this
theorem acW (s:ByteArray)(h9:(bys s).length≤1000000000):lN s=true∧bys (jA s)=(spl (bys s)).1∧uV s=(spl (bys s)).2.2∧(uV s=true→bys (jz s)=(spl (bys s)).2.1):=by
 unfold lN jA jz uV spl
 rw[ach]
 cases h:fK (bys s) with
 | none=>refine⟨?_,?_,?_,?_⟩ <;> first | rfl | trivial | nofun
 | some j =>
  have:=Fj h
  simp only
  rw[jO] at this h9
  refine⟨?_,?_,by trivial,fun _ => ?_⟩
  ·show ((j+1).ble (bO s).length && (bO s).length.ble 1000000000)=true
   simp only[Bool.and_eq_true,Nat.ble_eq];omega
  ·show bys (mkStr ((bO s).take j))=_
   unfold bys;rw[fh,map_take]
  ·show bys (mkStr ((bO s).drop (j+1)))=_
   unfold bys;rw[fh,map_drop]
def qb (x:Rat):ByteArray:=tx (qtx x.num x.den)
def qt (x:Rat):PV:=.sc (.string (qb x))
theorem KQ (x:Rat):qs x.num x.den=qt x:=rfl
theorem Ju (x:Rat):bys (qb x)=qtx x.num x.den:=jH (Ij _ _)
theorem kQ (x:Rat):spl (bys (qb x))=(ztx x.num,ztx x.den, !decide ((x.den:Int)=1)):=by rw[Ju,Bo]
theorem pL {x y:Rat}(h:qb x=qb y):x=y:=by
 have h1:=kQ x
 rw[h,kQ] at h1
 simp only[PiE] at h1
 exact Rat.ext (qi h1.1).symm (by have:=qi h1.2.1;omega)
theorem LG (s t:ByteArray):eo .eql s t=some (.bool (decide (s=t))):=by
 have h:eqL (bO s) (bO t)=decide (s=t):=by
  rw[Ab.tg]
  by_cases h:s=t
  ·subst h;simp
  ·have:bO s≠bO t:=fun e=>h (by rw[← gq s,e,gq])
   simp[h,this]
 simp only[eo,h]
theorem abC (s t:ByteArray):eo .neq s t=some (.bool (!decide (s=t))):=by
 have h:=LG s t
 simp only[eo,OiE,Value.bool.injEq] at h
 simp only[eo,h]
theorem vH (x:Rat):eo .eql (qb x) { data:=#[105,110,102] } = some (.bool false):=by
 rw[LG,decide_eq_false]
 intro e
 have h1:=congrArg bys e
 rw[Ju] at h1
 have h2:(105:Nat) ∈ qtx x.num x.den:=by rw[h1];exact mem_cons_self
 have hz:∀ (z:Int),∀ y ∈ ztx z,y≠105:=by
  intro z y hy
  rw[si,mem_append] at hy
  rcases hy with hy | hy
  ·cases hn:bw z <;> rw[hn] at hy <;> simp at hy
   omega
  ·have:=dE.1 (fE (ob _) hy)
   omega
 unfold qtx at h2
 split at h2
 ·exact hz _ _ h2 rfl
 ·simp only[mem_append,mem_cons] at h2
  rcases h2 with h2 | h2 | h2
  ·exact hz _ _ h2 rfl
  ·omega
  ·exact hz _ _ h2 rfl
theorem Rb.zm {k:Nat}{x:Rat}(h:Rb k x)(hk:k≤2000000):Zm x.num∧Zm (x.den:Int):=⟨h.1.zm hk,h.2.zm hk⟩
theorem yh {k:Nat}{x:Rat}(h:Rb k x)(hk:k≤2000000):pt (qt x)=some (x.num,(x.den:Int)):=WC (h.zm hk).1 (h.zm hk).2 (by have:=x.den_pos;omega)
theorem aff {x y:Rat}{j k:Nat}(hx:Rb j x)(hy:Rb k y)(h:j+k≤1000000):wL [qt x,qt y]=some [qt (x+y)]:=by
 have g1:=hx.1.mul hy.2
 have g2:=hy.1.mul hx.2
 rw[Nat.add_comm k j] at g2
 have g3:=hx.2.mul hy.2
 simp only[wL,yh hx (by omega),yh hy (by omega)]
 cases hb:decide ((x.den:Int)=1) && decide ((y.den:Int)=1) with
 | true =>
  simp only[Bool.and_eq_true,decide_eq_true_eq] at hb
  have h1:=qH x y
  have h2:=qJ x y
  rw[hb.1,hb.2] at h1 h2
  simp[qI,pH] at h1 h2
  rw[cond_true,h1,← KQ,← h2]
 | false =>
  rw[cond_false,g1.zmB (by omega),g2.zmB (by omega),(g1.add g2).zmB (by omega),g3.zmB (by omega)]
  simp only[Bool.and_self,cond_true,qH,qJ,KQ]
theorem aep {x y:Rat}{j k:Nat}(hx:Rb j x)(hy:Rb k y)(h:j+k≤1000000):wJ [qt x,qt y]=some [qt (x*y)]:=by
 have g1:=hx.1.mul hy.1
 have g3:=hx.2.mul hy.2
 simp only[wJ,yh hx (by omega),yh hy (by omega),g1.zmB (by omega),g3.zmB (by omega),Bool.and_self,cond_true,wC,wD,KQ]
theorem aaS {x:Rat}{j:Nat}(hx:Rb j x)(h:j≤1000000):pI [qt x]=some [qt (-x)]:=by
 simp only[pI,yh hx (by omega)]
 rw[← KQ,Rat.neg_num,Rat.neg_den]
theorem ajH {L:Lst}(hL:bC L 24=fun a=>wL (aK a))(run:av){x y:Rat}{j k:Nat}(hx:Rb j x)(hy:Rb k y)(h:j+k≤1000000):aA L run 24 [qt x,qt y] (qt (x+y)):=fun dr hp =>
 bq MN hL run dr hp _ [qt (x+y)] rfl rfl (aff hx hy h)
theorem ahf {L:Lst}(hL:bC L 34=fun a=>wJ (aK a))(run:av){x y:Rat}{j k:Nat}(hx:Rb j x)(hy:Rb k y)(h:j+k≤1000000):aA L run 34 [qt x,qt y] (qt (x*y)):=fun dr hp =>
 bq G4 hL run dr hp _ [qt (x*y)] rfl rfl (aep hx hy h)
theorem ajI {L:Lst}(hL:bC L 122=fun a=>pI (aK a))(run:av){x:Rat}{j:Nat}(hx:Rb j x)(h:j≤1000000):aA L run 122 [qt x] (qt (-x)):=fun dr hp =>
 bq Rz hL run dr hp _ [qt (-x)] rfl rfl (aaS hx h)
theorem Mg {L:Lst}(hL:bC L 65=fun a=>kx (aK a))(run:av){x:Rat}{j:Nat}(hx:Rb j x)(h:j≤2000000):aA L run 65 [qt x] (.tup [zs x.num,zs x.den,.sc (.bool (!decide ((x.den:Int)=1)))]):=fun dr hp =>
 bq jZ hL run dr hp _ [zs x.num,zs x.den,.sc (.bool (!decide ((x.den:Int)=1)))] rfl rfl (GL _ _ (hx.zm h).1 (hx.zm h).2)
theorem XX {L:Lst}(hL:bC L 68=fun a=>tX (aK a))(run:av)(x y:Int)(hx:Zm x)(hy:Zm y):aA L run 68 [zs x,zs y] (zs (x*y)):=fun dr hp =>
 bq wm hL run dr hp _ [zs (x*y)] rfl rfl (by simp only[tX,cJ x hx,cJ y hy])
theorem Cs {L:Lst}(hL:bC L 69=fun a=>mf (aK a))(run:av)(x y:Int)(hx:Zm x)(hy:Zm y):aA L run 69 [zs x,zs y] (Ab.bJ (fX x y)):=fun dr hp =>
 bq Dk hL run dr hp _ [Ab.bJ (fX x y)] rfl rfl (by simp only[mf,cJ x hx,cJ y hy])
theorem gi {L:Lst}{g:Nat}{α:Type}{e:α→Ψ}{ok:α→Prop}{f:α→Ψ}(hs:base.shared g=false)(hL:bC L g=fun a=>ctr e ok f (aK a))(inj:∀ x y,ok x→ok y→e x=e y→f x=f y)(run:av)(x:α)(hx:ok x)
  (hsn:∀ hp,bu (snap hp bn) (e x)=some (e x,[])) (hc:aK (e x)=e x):aA L run g (e x) (iL (f x)):=fun dr hp =>
 bq hs hL run dr hp _ (f x) (hsn hp) hc (pU inj hx)
end Go.Proofs.YtjdmodeenbdfpaaGreat
