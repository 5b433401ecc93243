/- Contracts of numbers kept as digits in text, part 23; each lemma states its conditions. -/
import Derived.Test.YtjdmodeenbdfpaaGreatW22
set_option linter.unusedSimpArgs false
set_option linter.unusedVariables false
noncomputable section
namespace Go.Proofs.YtjdmodeenbdfpaaGreat
open Go Go.Ab List Tryz
attribute [local simp] FzZ aA aC aF aG aH aZ aa ab ae af ag ah ai aj an ao aq au av bg seq1
variable(L:Lst)(run:aw)(k:Nat)(fr:Ψ)(hp:Ω)(wr:Θ)
theorem Le(x y:Int)(hx:Zm x)(hy:Zm y):az ow run 66 [zs x,zs y] (zs (x+y)):=fun dr hp =>
 bu so aao run dr hp _ [zs (x+y)] rfl rfl (by simp only[iE,cO x hx,cO y hy])
theorem Hi(s t a b c d r:ByteArray)(u v:Bool)(hb:fc .eql b { data:=#[49] } = some (.bool true))(hd:fc .eql d { data:=#[49] } = some (.bool true))(g1:az L run 65 [.sc (.string s)] (.tup [.sc (.string a),.sc (.string b),.sc (.bool u)]))(g2:az L run 65 [.sc (.string t)] (.tup [.sc (.string c),.sc (.string d),.sc (.bool v)]))
  (g3:az L run 66 [.sc (.string a),.sc (.string c)] (.sc (.string r))) :
  ∃ st,af (CC L) run k (f24.body.getD .skip) ⟨entry 43 [.sc (.string s),.sc (.string t)],[],[]⟩=some (.ret,st)∧bc TT st.fr st.hp f24.results.toList=some [.sc (.string r)]:=by
 obtain⟨e1,e2,e3⟩:=cC 41 (.sc (.string s)) (.sc (.string t))
 generalize entry 43 [.sc (.string s),.sc (.string t)]=fr0 at *
 unfold az at *
 simp[f24,e1,e2,e3,aM,g1,g2,g3,hb,hd,bc]
theorem Hh(s t a b c d e f g h r:ByteArray)(u v w1 w2:Bool)(hw:(w1 && w2)=false)(hb:fc .eql b { data:=#[49] } = some (.bool w1))(hd:fc .eql d { data:=#[49] } = some (.bool w2))(g1:az L run 65 [.sc (.string s)] (.tup [.sc (.string a),.sc (.string b),.sc (.bool u)]))(g2:az L run 65 [.sc (.string t)] (.tup [.sc (.string c),.sc (.string d),.sc (.bool v)]))
  (g3:az L run 68 [.sc (.string a),.sc (.string d)] (.sc (.string e))) (g4:az L run 68 [.sc (.string c),.sc (.string b)] (.sc (.string f))) (g5:az L run 66 [.sc (.string e),.sc (.string f)] (.sc (.string g))) (g6:az L run 68 [.sc (.string b),.sc (.string d)] (.sc (.string h))) (g7:az L run 67 [.sc (.string g),.sc (.string h)] (.sc (.string r))) :
  ∃ st,af (CC L) run k (f24.body.getD .skip) ⟨entry 43 [.sc (.string s),.sc (.string t)],[],[]⟩=some (.ret,st)∧bc TT st.fr st.hp f24.results.toList=some [.sc (.string r)]:=by
 obtain⟨e1,e2,e3⟩:=cC 41 (.sc (.string s)) (.sc (.string t))
 generalize entry 43 [.sc (.string s),.sc (.string t)]=fr0 at *
 unfold az at *
 cases w1 <;> cases w2 <;> simp only[Bool.and_true,Bool.and_false,Bool.and_self,Bool.true_eq_false] at hw <;> simp[f24,e1,e2,e3,aM,g1,g2,g3,g4,g5,g6,g7,hb,hd,undef,bc]
def wH:Ψ→Option Ψ
 | [p,q]=>match pt p,pt q with
  | some (n,d),some (m,k)=>bif decide (d=1) && decide (k=1) then some [qs (n+m) 1] else
    bif zmB (n*k) && (zmB (m*d) && (zmB (n*k+m*d) && zmB (d*k))) then some [qs (qM (n*k+m*d) (d*k)) (pF (n*k+m*d) (d*k))] else none
  | _,_=>none
 | _=>none
theorem zP:Ab.Spec base.P 24 wH:=Ab.Spec.bN (C:=CC ow) (cP LN) fun args rs h=>by
 unfold wH at h
 split at h
 ·split at h
  ·rename_i n d m k ex ey
   obtain⟨rfl,hn,hd,hd0⟩:=ky ex
   obtain⟨rfl,hm,hk,hk0⟩:=ky ey
   cases hw:decide (d=1) && decide (k=1) with
   | true =>
    rw[hw] at h
    simp only[cond_true,OiE] at h
    subst h
    simp only[Bool.and_eq_true,decide_eq_true_eq] at hw
    obtain⟨rfl,rfl⟩:=hw
    obtain⟨st,x1,x2⟩:=Hi ow (runK (CC ow) 1) 1 _ _ _ _ _ _ _ _ _ (oW 1) (oW 1) (oU _ n 1 hn hd) (oU _ m 1 hm hk) (Le _ n m hn hm)
    exact⟨2,_,_,_,_,_,aV uF rfl x1 x2,rfl,Wk.refl rfl,trivial⟩
   | false =>
    rw[hw] at h
    simp only[cond_false] at h
    cases hb:zmB (n*k) && (zmB (m*d) && (zmB (n*k+m*d) && zmB (d*k))) with
    | false=>rw[hb] at h;cases h
    | true =>
     rw[hb] at h
     simp only[cond_true,OiE] at h
     subst h
     simp only[Bool.and_eq_true] at hb
     obtain⟨b1,b2,b3,b4⟩:=hb
     obtain⟨st,x1,x2⟩:=Hh ow (runK (CC ow) 1) 1 _ _ _ _ _ _ _ _ _ _ _ _ _ _ _ hw (oW d) (oW k) (oU _ n d hn hd) (oU _ m k hm hk) (rA _ n k hn hk) (rA _ m d hm hd) (Le _ _ _ (se b1) (se b2)) (rA _ d k hd hk) (Fl _ _ _ (se b3) (se b4) (Int.mul_pos hd0 hk0))
     exact⟨2,_,_,_,_,_,aV uF rfl x1 x2,rfl,Wk.refl rfl,trivial⟩
  ·cases h
 ·cases h
def Nb (k:Nat)(z:Int):Prop:=z.natAbs<10 ^ k
def Rb (k:Nat)(x:Rat):Prop:=Nb k x.num∧Nb k x.den
theorem Nb.mono {j k:Nat}{z:Int}(h:Nb j z)(hk:j≤k):Nb k z:=Nat.lt_of_lt_of_le h (Nat.pow_le_pow_right (by omega) hk)
theorem Rb.mono {j k:Nat}{z:Rat}(h:Rb j z)(hk:j≤k):Rb k z:=⟨h.1.mono hk,h.2.mono hk⟩
theorem Nb.sm {k:Nat}{z:Int}(h:Nb k z)(hk:k≤2000000):Sm z:=by
 have h1:z.natAbs<1000000000 ^ (k / 9+1):=by
  refine Nat.lt_of_lt_of_le h ?_
  have:(1000000000:Nat)=10 ^ 9:=by decide
  rw[this,← Nat.pow_mul]
  exact Nat.pow_le_pow_right (by omega) (by omega)
 exact Nat.lt_of_le_of_lt (di h1) (by omega)
theorem Nb.smB {k:Nat}{z:Int}(h:Nb k z)(hk:k≤2000000):smB z=true:=by
 unfold YtjdmodeenbdfpaaGreat.smB
 rw[Nat.blt_eq]
 have hN:0<11000000:=by decide
 have hK:4*k≤11000000:=by omega
 generalize 11000000=N at hN hK ⊢
 by_cases h0:z.natAbs=0
 ·rw[h0];exact hN
 ·rw[Nat.log2_lt h0]
  refine Nat.lt_of_lt_of_le h ?_
  have:(10:Nat) ^ k≤16 ^ k:=Nat.pow_le_pow_left (by omega) k
  refine Nat.le_trans this ?_
  have e:(16:Nat)=2 ^ 4:=by decide
  rw[e,← Nat.pow_mul]
  exact Nat.pow_le_pow_right (by decide) hK
theorem Nb.eA {k:Nat}{z:Int}(h:Nb k z):eA z≤k+1:=by
 unfold Ab.eA
 rw[tg (by omega)]
 exact Nat.lt_of_lt_of_le h (Nat.pow_le_pow_right (by omega) (by omega))
theorem Nb.zm {k:Nat}{z:Int}(h:Nb k z)(hk:k≤2000000):Zm z:=by
 unfold Zm
 rw[gu]
 have:=h.eA
 unfold fO
 cases bw z <;> simp <;> omega
theorem Nb.zmB {k:Nat}{z:Int}(h:Nb k z)(hk:k≤2000000):zmB z=true:=by
 unfold YtjdmodeenbdfpaaGreat.zmB
 rw[Nat.ble_eq]
 exact h.zm hk
theorem Nb.mul {j k:Nat}{x y:Int}(h:Nb j x)(h':Nb k y):Nb (j+k) (x*y):=by
 unfold Nb at *
 rw[Int.natAbs_mul,Nat.pow_add]
 exact Nat.mul_lt_mul'' h h'
theorem Nb.add {k:Nat}{x y:Int}(h:Nb k x)(h':Nb k y):Nb (k+1) (x+y):=by
 unfold Nb at *
 have:=Int.natAbs_add_le x y
 rw[Nat.pow_succ]
 omega
theorem Nb.neg {k:Nat}{x:Int}(h:Nb k x):Nb k (-x):=by unfold Nb at *;rw[Int.natAbs_neg];exact h
theorem Nb.div {k:Nat}{x:Int}(h:Nb k x)(g:Nat):Nb k (x / g):=by
 unfold Nb at *
 refine Nat.lt_of_le_of_lt ?_ h
 exact Int.natAbs_ediv_le_natAbs x g
theorem Nb.den {k:Nat}{x:Rat}(h:Rb k x):Nb k x.den:=h.2
theorem qK (x y:Rat):qM (x.num*y.den+y.num*x.den) (x.den*y.den)=(x+y).num:=by
 rw[Rat.add_def,Rat.normalize_eq]
 simp only[qM,Int.natAbs_mul,Int.natAbs_natCast]
theorem qN (x y:Rat):pF (x.num*y.den+y.num*x.den) (x.den*y.den)=((x+y).den:Int):=by
 rw[Rat.add_def,Rat.normalize_eq]
 simp only[pF,Int.natAbs_mul,Int.natAbs_natCast]
 simp
theorem wv (x y:Rat):qM (x.num*y.num) (x.den*y.den)=(x*y).num:=by
 rw[Rat.mul_def,Rat.normalize_eq]
 simp only[qM,Int.natAbs_mul,Int.natAbs_natCast]
theorem wx (x y:Rat):pF (x.num*y.num) (x.den*y.den)=((x*y).den:Int):=by
 rw[Rat.mul_def,Rat.normalize_eq]
 simp only[pF,Int.natAbs_mul,Int.natAbs_natCast]
 simp
theorem Rb.mul {j k:Nat}{x y:Rat}(h:Rb j x)(h':Rb k y):Rb (j+k) (x*y):=by
 constructor
 ·rw[← wv];exact (h.1.mul h'.1).div _
 ·rw[← wx];exact (h.2.mul h'.2).div _
theorem Rb.add {j k:Nat}{x y:Rat}(h:Rb j x)(h':Rb k y):Rb (j+k+1) (x+y):=by
 constructor
 ·rw[← qK]
  refine (Nb.add (h.1.mul h'.2) ?_).div _
  rw[Nat.add_comm]
  exact h'.1.mul h.2
 ·rw[← qN];exact ((h.2.mul h'.2).div _).mono (by omega)
theorem Rb.neg {k:Nat}{x:Rat}(h:Rb k x):Rb k (-x):=by
 constructor
 ·rw[Rat.neg_num];exact h.1.neg
 ·rw[Rat.neg_den];exact h.2
theorem Rb.sub {j k:Nat}{x y:Rat}(h:Rb j x)(h':Rb k y):Rb (j+k+1) (x - y):=by
 rw[Rat.sub_eq_add_neg];exact h.add h'.neg
theorem Rb.zero:Rb (k+1) 0:=⟨Nat.pow_pos (by omega),Nat.one_lt_pow (by omega) (by omega)⟩
theorem Rb.one:Rb (k+1) 1:=⟨Nat.one_lt_pow (by omega) (by omega),Nat.one_lt_pow (by omega) (by omega)⟩
def rv:Option Rat→PV
 | none=>cf 0 0
 | some x=>cf x.num x.den
def vv:Option Rat→Rat
 | none=>0
 | some x=>x
theorem Y2 (u:Option Rat):∃ b,rv u=cf (vv u).num b∧dE b=(vv u).den∧(∀ k,Rb (k+1) (vv u)→Nb (k+1) b):=by
 cases u with
 | none=>exact⟨0,rfl,rfl,fun k _=>Nat.pow_pos (by omega)⟩
 | some x =>
  refine⟨x.den,rfl,?_,fun k h=>h.2⟩
  have:=x.den_pos
  unfold dE
  rw[if_neg (by omega)]
  rfl
theorem jA (n d:Int)(h:0<d):kP n d=qM n d∧kQ n d=pF n d:=by
 have hg:n.natAbs % Nat.gcd n.natAbs d.natAbs=0:=Nat.mod_eq_zero_of_dvd (Nat.gcd_dvd_left _ _)
 have hg0:0<Nat.gcd n.natAbs d.natAbs:=Nat.gcd_pos_of_pos_right _ (by omega)
 unfold kP kQ qM pF
 have hn:bw d=false:=by rw[cK];simp;omega
 rw[hn,cond_false]
 generalize Nat.gcd n.natAbs d.natAbs=g at *
 constructor
 ·obtain⟨q,hq⟩:=Nat.dvd_of_mod_eq_zero hg
  have hq2:n.natAbs / g=q:=by rw[hq];exact Nat.mul_div_cancel_left _ (by omega)
  rw[hq2]
  unfold sgn
  rw[cK]
  have hgq:((g*q:Nat):Int)=(g:Int)*q:=by simp
  by_cases hs:n<0
  ·have h2:n=(g:Int)*(-(q:Int)):=by
    rw[Int.mul_neg,← hgq,← hq];omega
   rw[decide_eq_true hs,cond_true,Int.negOfNat_eq]
   conv=>rhs;rw[h2]
   rw[Int.mul_ediv_cancel_left _ (by omega)]
   rfl
  ·have h2:n=(g:Int)*(q:Int):=by
    rw[← hgq,← hq];omega
   rw[decide_eq_false hs,cond_false]
   conv=>rhs;rw[h2]
   rw[Int.mul_ediv_cancel_left _ (by omega)]
   rfl
 ·obtain⟨m,rfl⟩:=Int.eq_ofNat_of_zero_le (Int.le_of_lt h)
  simp
theorem mh (n d:Int)(h:0<d):(Rat.divInt n d).num=qM n d∧((Rat.divInt n d).den:Int)=pF n d:=by
 obtain⟨m,rfl⟩:=Int.eq_ofNat_of_zero_le (Int.le_of_lt h)
 rw[Rat.divInt_ofNat,Rat.mkRat_def,dif_neg (by omega),Rat.normalize_eq]
 exact⟨rfl,by simp[pF]⟩
theorem uq (n d:Int)(h:d≠0):kP n d=(Rat.divInt n d).num∧kQ n d=(Rat.divInt n d).den:=by
 by_cases hd:0<d
 ·rw[(jA n d hd).1,(jA n d hd).2,(mh n d hd).1,(mh n d hd).2];exact⟨rfl,rfl⟩
 ·have e1:kP n d=kP (-n) (-d):=by
   have h1:bw d=true:=by rw[cK];simp;omega
   have h2:bw (-d)=false:=by rw[cK];simp;omega
   unfold kP
   rw[h1,h2,Int.natAbs_neg,Int.natAbs_neg]
   rfl
  have e2:kQ n d=kQ (-n) (-d):=by unfold kQ;rw[Int.natAbs_neg,Int.natAbs_neg]
  rw[e1,e2,← Rat.neg_divInt_neg,(jA _ _ (by omega:0 < -d)).1,(jA _ _ (by omega:0 < -d)).2,(mh _ _ (by omega:0 < -d)).1,(mh _ _ (by omega:0 < -d)).2]
  exact⟨rfl,rfl⟩
theorem IJ (x y:Rat):x / y=Rat.divInt (x.num*y.den) (x.den*y.num):=by
 rw[Rat.div_def,Rat.inv_def]
 conv=>lhs;rw[← Rat.num_divInt_den x]
 rw[Rat.divInt_mul_divInt]
def nk (x:Rat):Int:=x.num.sign
theorem pj {u:Option Rat}{k:Nat}(h:Rb k (vv u))(hk:k≤2000000):∃ b,rv u=cf (vv u).num b∧dE b=(vv u).den∧gK (rv u)=some ((vv u).num,b)∧Nb k b:=by
 obtain⟨b,h1,h2,h3⟩:=Y2 u
 cases u with
 | none =>
  refine⟨0,rfl,rfl,hZ (h.1.sm hk) (by unfold Sm;decide),Nat.pow_pos (by omega)⟩
 | some x =>
  have:=x.den_pos
  refine⟨x.den,rfl,?_,hZ (h.1.sm hk) (h.2.sm hk),h.2⟩
  unfold dE
  rw[if_neg (by omega)]
  rfl
theorem oI (x:Rat):rv (some x)=cf x.num x.den:=rfl
theorem Cs (x:Rat):(x.den:Int)≠0:=by have:=x.den_pos;omega
theorem Ao (n:Int)(x y:Rat):qY n (x.den*y.den)=true:=by
 have h1:=x.den_pos
 have h2:=y.den_pos
 unfold qY
 rw[Int.natAbs_mul,Int.natAbs_natCast,Int.natAbs_natCast]
 have:x.den*y.den≠0:=Nat.ne_of_gt (Nat.mul_pos h1 h2)
 simp only[Bool.not_eq_true']
 cases e:(x.den*y.den).beq 0 with
 | false=>rfl
 | true=>exact absurd (Nat.eq_of_beq_eq_true e) this
theorem wF {u v:Option Rat}{j k:Nat}(hu:Rb j (vv u))(hv:Rb k (vv v))(h:j+k≤1000000):fW [rv u,rv v]=some [rv (some (vv u+vv v))]:=by
 obtain⟨b,b1,b2,b3,b4⟩:=pj hu (by omega)
 obtain⟨d,d1,d2,d3,d4⟩:=pj hv (by omega)
 have g1:=hu.1.mul hv.2
 have g2:=hv.1.mul hu.2
 rw[Nat.add_comm k j] at g2
 have g3:=hu.2.mul hv.2
 have g4:=Ao ((vv u).num*(vv v).den+(vv v).num*(vv u).den) (vv u) (vv v)
 have hp:(0:Int)<(vv u).den*(vv v).den:=Int.mul_pos (by have:=(vv u).den_pos;omega) (by have:=(vv v).den_pos;omega)
 simp only[fW,b3,d3,b2,d2,g1.smB (by omega),g2.smB (by omega),(g1.add g2).smB (by omega),g3.smB (by omega),g4,Bool.and_self,cond_true,oI,(jA _ _ hp).1,(jA _ _ hp).2,qK,qN]
theorem DR {u v:Option Rat}{j k:Nat}(hu:Rb j (vv u))(hv:Rb k (vv v))(h:j+k≤1000000):jy [rv u,rv v]=some [rv (some (vv u*vv v))]:=by
 obtain⟨b,b1,b2,b3,b4⟩:=pj hu (by omega)
 obtain⟨d,d1,d2,d3,d4⟩:=pj hv (by omega)
 have g1:=hu.1.mul hv.1
 have g3:=hu.2.mul hv.2
 have g4:=Ao ((vv u).num*(vv v).num) (vv u) (vv v)
 have hp:(0:Int)<(vv u).den*(vv v).den:=Int.mul_pos (by have:=(vv u).den_pos;omega) (by have:=(vv v).den_pos;omega)
 simp only[jy,b3,d3,b2,d2,g1.smB (by omega),g3.smB (by omega),g4,Bool.and_self,cond_true,oI,(jA _ _ hp).1,(jA _ _ hp).2,wv,wx]
def G8:Option Rat→Option Rat
 | none=>none
 | some x=>some (-x)
theorem QD (u:Option Rat):vv (G8 u) = - vv u:=by cases u <;> rfl
theorem DQ {u:Option Rat}{j:Nat}(hu:Rb j (vv u))(h:j≤1000000):ki [rv u]=some [rv (G8 u)]:=by
 obtain⟨b,b1,b2,b3,b4⟩:=pj hu (by omega)
 cases u with
 | none=>rfl
 | some x =>
  have h2:gK (cf x.num x.den)=some (x.num,(x.den:Int)):=hZ (hu.1.sm (by omega)) (hu.2.sm (by omega))
  simp only[ki,oI,h2,G8,Rat.neg_num,Rat.neg_den]
theorem zz {u:Option Rat}{j:Nat}(hu:Rb j (vv u))(h:j≤1000000):iZ [rv u]=some [Ab.bJ (nk (vv u))]:=by
 obtain⟨b,b1,b2,b3,b4⟩:=pj hu (by omega)
 simp only[iZ,b3,nk]
theorem R6 {u v:Option Rat}{j k:Nat}(hu:Rb j (vv u))(hv:Rb k (vv v))(h:j+k≤1000000):tK [rv u,rv v]=some [rv (some (vv u - vv v))]:=by
 obtain⟨d,d1,d2,d3,d4⟩:=pj hv (by omega)
 have e:cf (-(vv v).num) d=rv (G8 v):=by
  have h1:=DQ hv (by omega)
  simp only[ki,d3,OiE,List.cons.injEq,and_true] at h1
  exact h1
 have h2:Rb k (vv (G8 v)):=by rw[QD];exact hv.neg
 simp only[tK,d3,e,wF hu h2 h,QD,Rat.sub_eq_add_neg]
theorem rU (u:Option Rat):canon (rv u)=rv u:=by cases u <;> exact Cw _ _
theorem tm (u:Option Rat):aJ [rv u]=[rv u]:=by simp only[aJ,rU]
theorem tj (u v:Option Rat):aJ [rv u,rv v]=[rv u,rv v]:=by simp only[aJ,rU]
theorem YB (hp:Θ)(d:Nat)(u:Option Rat):Ab.snap hp (d+2) (rv u)=some (rv u,[]):=by cases u <;> rfl
theorem qB (hp:Θ)(u:Option Rat):bj (snap hp bp) [rv u]=some ([rv u],[]):=by cases u <;> rfl
theorem vW (hp:Θ)(u v:Option Rat):bj (snap hp bp) [rv u,rv v]=some ([rv u,rv v],[]):=by cases u <;> cases v <;> rfl
theorem YU:base.shared 55=false:=by kernel_rfl
theorem J5:base.shared 56=false:=by kernel_rfl
theorem DG:base.shared 49=false:=by kernel_rfl
theorem ag2 {L:Lst}(hL:bt L 87=fun a=>fW (aJ a))(run:aw){u v:Option Rat}{j k:Nat}(hu:Rb j (vv u))(hv:Rb k (vv v))(h:j+k≤1000000):az L run 87 [rv u,rv v] (rv (some (vv u+vv v))):=fun dr hp =>
 bu Bz hL run dr hp _ [rv (some (vv u+vv v))] (vW hp u v) (tj u v) (wF hu hv h)
theorem agZ {L:Lst}(hL:bt L 55=fun a=>tK (aJ a))(run:aw){u v:Option Rat}{j k:Nat}(hu:Rb j (vv u))(hv:Rb k (vv v))(h:j+k≤1000000):az L run 55 [rv u,rv v] (rv (some (vv u - vv v))):=fun dr hp =>
 bu YU hL run dr hp _ [rv (some (vv u - vv v))] (vW hp u v) (tj u v) (R6 hu hv h)
theorem ag0 {L:Lst}(hL:bt L 56=fun a=>jy (aJ a))(run:aw){u v:Option Rat}{j k:Nat}(hu:Rb j (vv u))(hv:Rb k (vv v))(h:j+k≤1000000):az L run 56 [rv u,rv v] (rv (some (vv u*vv v))):=fun dr hp =>
 bu J5 hL run dr hp _ [rv (some (vv u*vv v))] (vW hp u v) (tj u v) (DR hu hv h)
theorem LR {L:Lst}(hL:bt L 49=fun a=>iZ (aJ a))(run:aw){u:Option Rat}{j:Nat}(hu:Rb j (vv u))(h:j≤1000000):az L run 49 [rv u] (Ab.bJ (nk (vv u))):=fun dr hp =>
 bu DG hL run dr hp _ [Ab.bJ (nk (vv u))] (qB hp u) (tm u) (zz hu h)
theorem agq {a b:Nat}(h:a.beq b=true):a=b:=Nat.eq_of_beq_eq_true h
theorem qf {a b:Nat}(h:a≠b):a.beq b=false:=by
 cases e:a.beq b with
 | false=>rfl
 | true=>exact absurd (agq e) h
theorem C6 (z:Int):lC (ztx z)=true:=by
 have h3:ztx z=(bif bw z then [45] else [])++dtx z.natAbs:=vA z
 rw[h3]
 have hd:=rH z.natAbs
 cases e:dtx z.natAbs with
 | nil=>exact absurd e (V3 _)
 | cons a r =>
  rw[e] at hd
  have ha:=dN.1 (fS hd mem_cons_self)
  have hh:vHd (a::r)=false:=by
   cases r with
   | nil=>rfl
   | cons b r=>exact qf (rD e)
  cases hn:bw z with
  | false =>
   simp only[cond_false,nil_append,lC,kY,qf (show a≠45 by omega),hh,hd]
   rfl
  | true =>
   have h48:a≠48:=by
    cases r with
    | nil =>
     intro ea
     rw[ea] at e
     exact KP hn e
    | cons b r=>exact rD e
   have h45:(45:Nat).beq 45=true:=rfl
   simp only[cond_true,cons_append,nil_append,lC,kY,qf h48,cond_false,hh,hd,h45]
   rfl
theorem y6 {l:Ω}(h:lC l=true):∃ z,l=ztx z:=by
 have key:∀ (m:Bool) (ds:Ω),vHd ds=false→eO ds=true→(m=true→ds≠[48])→∃ z,(bif m then [45] else [])++ds=ztx z:=by
  intro m ds h1 h2 h3
  refine⟨_,Lz h2 (by intro e;subst e;simp[vHd] at h1) h3 ?_⟩
  intro a b l e ea
  subst e;subst ea
  simp[vHd] at h1
 unfold lC at h
 cases l with
 | nil=>simp[kY,vHd] at h
 | cons a l =>
  by_cases ha:a=45
  ·subst ha
   cases l with
   | nil=>simp[kY,vHd] at h
   | cons b l =>
    by_cases hb:b=48
    ·subst hb;simp[kY] at h
    ·have h45:(45:Nat).beq 45=true:=rfl
     simp only[kY,qf hb,cond_true,cond_false,h45,Bool.and_eq_true,Bool.not_eq_true'] at h
     obtain⟨z,hz⟩:=key true (b::l) h.1 h.2 (fun _ e=>hb (List.cons.inj e).1)
     exact⟨z,hz⟩
  ·simp only[kY,qf ha,cond_false,Bool.and_eq_true,Bool.not_eq_true'] at h
   obtain⟨z,hz⟩:=key false (a::l) h.1 h.2 nofun
   exact⟨z,hz⟩
def uU (n:Bool):Ω→Bool
 | []=>true
 | [a]=>a.beq 48 && n
 | a::_=>a.beq 48
theorem acq (n:Bool)(s:ByteArray):pw n (bO s)=uU n (bys s):=by
 unfold bys
 cases bO s with
 | nil=>rfl
 | cons a l=>cases l <;> rfl
def isM:Ω→Bool
 | []=>false
 | a::_=>a.beq 45
theorem Wz (s:ByteArray):ya s=isM (bys s):=by
 unfold ya bys iR
 cases bO s with
 | nil=>rfl
 | cons a l =>
  show (Nat.ble 1 (l.length+1) && eqL [a] [45])=a.toNat.beq 45
  have:Nat.ble 1 (l.length+1)=true:=by rw[Nat.ble_eq];omega
  rw[this,Bool.true_and]
  simp only[eqL,Bool.and_true]
  by_cases h:a.toNat=45
  ·rw[h];rfl
  ·rw[qf h,beq_eq_false_iff_ne];exact h
theorem agc (s:ByteArray):bys (pV s)=bif isM (bys s) then (bys s).drop 1 else bys s:=by
 have:=Wz s
 unfold ya at this
 unfold pV
 rw[this]
 cases isM (bys s) with
 | false=>rfl
 | true =>
  simp only[cond_true]
  unfold bys
  rw[fm,map_drop]
theorem DX (s:ByteArray):gM s=bif uU (isM (bys s)) (bif isM (bys s) then (bys s).drop 1 else bys s) then none else bif eO (bif isM (bys s) then (bys s).drop 1 else bys s) then some (sgn (isM (bys s)) (dec 0 (bif isM (bys s) then (bys s).drop 1 else bys s))) else none:=by
 unfold gM
 rw[acq,agc,Wz]
theorem RV (m:Bool)(n:Nat):sgn m n=gL m n:=rfl
theorem Hf {s:ByteArray}{z:Int}(h:bys s=ztx z):gM s=some z:=by
 rw[DX,h]
 have h3:ztx z=(bif bw z then [45] else [])++dtx z.natAbs:=vA z
 have hz:=ik z
 rw[h3]
 have hd:=rH z.natAbs
 have hv:=oY z.natAbs
 cases e:dtx z.natAbs with
 | nil=>exact absurd e (V3 _)
 | cons a r =>
  rw[e] at hd hv
  have ha:=dN.1 (fS hd mem_cons_self)
  cases hn:bw z with
  | false =>
   have hb:uU false (a::r)=false:=by
    cases r with
    | nil=>simp[uU]
    | cons b r=>exact qf (rD e)
   simp only[cond_false,nil_append,isM,qf (show a≠45 by omega),hb,hd,cond_true,RV]
   rw[hv,← hn,hz]
  | true =>
   have hb:uU true (a::r)=false:=by
    cases r with
    | nil =>
     have:a≠48:=by
      intro ea
      rw[ea] at e
      exact KP hn e
     simp[uU,qf this]
    | cons b r=>exact qf (rD e)
   have h45:(45:Nat).beq 45=true:=rfl
   simp only[cond_true,cons_append,nil_append,isM,h45,drop_succ_cons,drop_zero,hb,cond_false,hd,RV]
   rw[hv,← hn,hz]
theorem tN {s:ByteArray}{z:Int}(h:gM s=some z):bys s=ztx z:=by
 rw[DX] at h
 have key:∀ (m:Bool) (ds:Ω),uU m ds=false→eO ds=true→some (sgn m (dec 0 ds))=some z→(bif m then [45] else [])++ds=ztx z:=by
  intro m ds h1 h2 h3
  simp only[OiE] at h3
  rw[← h3,RV]
  refine Lz h2 (by intro e;subst e;simp[uU] at h1) ?_ ?_
  ·rintro rfl rfl
   simp[uU] at h1
  ·intro a b l e ea
   subst e;subst ea
   simp[uU] at h1
 cases hm:isM (bys s) with
 | true =>
  rw[hm] at h
  simp only[cond_true] at h
  cases hb:uU true ((bys s).drop 1) with
  | true=>rw[hb] at h;cases h
  | false =>
   rw[hb] at h
   simp only[cond_false] at h
   cases hd:eO ((bys s).drop 1) with
   | false=>rw[hd] at h;cases h
   | true =>
    rw[hd] at h
    simp only[cond_true] at h
    rw[← key true _ hb hd h]
    cases e:bys s with
    | nil=>rw[e] at hm;cases hm
    | cons a l =>
     rw[e] at hm
     rw[agq hm];rfl
 | false =>
  rw[hm] at h
  simp only[cond_false] at h
  cases hb:uU false (bys s) with
  | true=>rw[hb] at h;cases h
  | false =>
   rw[hb] at h
   simp only[cond_false] at h
   cases hd:eO (bys s) with
   | false=>rw[hd] at h;cases h
   | true =>
    rw[hd] at h
    simp only[cond_true] at h
    exact key false _ hb hd h
theorem VE:∀ l:List UInt8,Lib.indexByte l 47=match fK (l.map UInt8.toNat) with
  | some j=>(j:Int)
  | none => -1
 | []=>rfl
 | a::l=>by
  have ih:=VE l
  simp only[Lib.indexByte,map_cons,fK]
  by_cases h:a.toNat=47
  ·have:(a == 47)=true:=by rw[beq_iff_eq,← UInt8.toNat_inj];exact h
   rw[this,if_pos rfl,h]
   rfl
  ·have:(a == 47)=false:=by rw[beq_eq_false_iff_ne,ne_eq,← UInt8.toNat_inj];exact h
   rw[this,if_neg (by simp),qf h,cond_false,ih]
   cases fK (l.map UInt8.toNat) with
   | none=>rfl
   | some j =>
    simp only[Option.map_some]
    have h1 : ¬ ((((j:Nat):Int) == -1)=true):=by
     rw[beq_iff_eq];omega
    rw[if_neg h1]
    rfl
theorem abl (s:ByteArray):idx s=match fK (bys s) with
  | some j=>(j:Int)
  | none => -1:=by
 unfold idx
 cases h:eqL [47] (bO s) with
 | false=>exact VE (bO s)
 | true =>
  have h2:[47]=bO s:=by
   have h3:=Ab.s9 [47] (bO s)
   rw[h] at h3
   exact eq_of_beq h3.symm
  unfold bys
  rw[← h2]
  rfl
theorem Fp:∀ {l:Ω} {j:Nat},fK l=some j→j<l.length
 | a::l,j,h=>by
  simp only[fK] at h
  cases e:a.beq 47 with
  | true=>rw[e] at h;simp at h;subst h;simp
  | false =>
   rw[e] at h
   simp only[cond_false,Option.map_eq_some_iff] at h
   obtain⟨i,hi,rfl⟩:=h
   have:=Fp hi
   simpa using this
theorem ab7 (s:ByteArray)(h9:(bys s).length≤1000000000):l6 s=true∧bys (jG s)=(spl (bys s)).1∧uQ s=(spl (bys s)).2.2∧(uQ s=true→bys (jF s)=(spl (bys s)).2.1):=by
 unfold l6 jG jF uQ spl
 rw[abl]
 cases h:fK (bys s) with
 | none=>refine⟨?_,?_,?_,?_⟩ <;> first | rfl | trivial | nofun
 | some j =>
  have:=Fp h
  simp only
  rw[jr] at this h9
  refine⟨?_,?_,by trivial,fun _ => ?_⟩
  ·show ((j+1).ble (bO s).length && (bO s).length.ble 1000000000)=true
   simp only[Bool.and_eq_true,Nat.ble_eq];omega
  ·show bys (mkStr ((bO s).take j))=_
   unfold bys;rw[fm,map_take]
  ·show bys (mkStr ((bO s).drop (j+1)))=_
   unfold bys;rw[fm,map_drop]
def qb (x:Rat):ByteArray:=tx (qtx x.num x.den)
def qt (x:Rat):PV:=.sc (.string (qb x))
theorem Tw (x:Rat):qs x.num x.den=qt x:=rfl
theorem W4 (x:Rat):bys (qb x)=qtx x.num x.den:=jO (HP _ _)
theorem kZ (x:Rat):spl (bys (qb x))=(ztx x.num,ztx x.den, !decide ((x.den:Int)=1)):=by rw[W4,Bu]
theorem pI {x y:Rat}(h:qb x=qb y):x=y:=by
 have h1:=kZ x
 rw[h,kZ] at h1
 simp only[PiE] at h1
 exact Rat.ext (qi h1.1).symm (by have:=qi h1.2.1;omega)
theorem Lq (s t:ByteArray):fc .eql s t=some (.bool (decide (s=t))):=by
 have h:eqL (bO s) (bO t)=decide (s=t):=by
  rw[Ab.s9]
  by_cases h:s=t
  ·subst h;simp
  ·have:bO s≠bO t:=fun e=>h (by rw[← gE s,e,gE])
   simp[h,this]
 simp only[fc,h]
theorem aaJ (s t:ByteArray):fc .neq s t=some (.bool (!decide (s=t))):=by
 have h:=Lq s t
 simp only[fc,OiE,Value.bool.injEq] at h
 simp only[fc,h]
theorem afY (x y:Rat):fc .eql (qb x) (qb y)=some (.bool (decide (x=y))):=by
 rw[Lq]
 by_cases h:x=y
 ·subst h;simp
 ·rw[decide_eq_false h,decide_eq_false fun e=>h (pI e)]
theorem Rb.zm {k:Nat}{x:Rat}(h:Rb k x)(hk:k≤2000000):Zm x.num∧Zm (x.den:Int):=⟨h.1.zm hk,h.2.zm hk⟩
theorem Ct {k:Nat}{x:Rat}(h:Rb k x)(hk:k≤2000000):pt (qt x)=some (x.num,(x.den:Int)):=Ww (h.zm hk).1 (h.zm hk).2 (by have:=x.den_pos;omega)
theorem aen {x y:Rat}{j k:Nat}(hx:Rb j x)(hy:Rb k y)(h:j+k≤1000000):wH [qt x,qt y]=some [qt (x+y)]:=by
 have g1:=hx.1.mul hy.2
 have g2:=hy.1.mul hx.2
 rw[Nat.add_comm k j] at g2
 have g3:=hx.2.mul hy.2
 simp only[wH,Ct hx (by omega),Ct hy (by omega)]
 cases hb:decide ((x.den:Int)=1) && decide ((y.den:Int)=1) with
 | true =>
  simp only[Bool.and_eq_true,decide_eq_true_eq] at hb
  have h1:=qK x y
  have h2:=qN x y
  rw[hb.1,hb.2] at h1 h2
  simp[qM,pF] at h1 h2
  rw[cond_true,h1,← Tw,← h2]
 | false =>
  rw[cond_false,g1.zmB (by omega),g2.zmB (by omega),(g1.add g2).zmB (by omega),g3.zmB (by omega)]
  simp only[Bool.and_self,cond_true,qK,qN,Tw]
theorem adF {x y:Rat}{j k:Nat}(hx:Rb j x)(hy:Rb k y)(h:j+k≤1000000):zJ [qt x,qt y]=some [qt (x*y)]:=by
 have g1:=hx.1.mul hy.1
 have g3:=hx.2.mul hy.2
 simp only[zJ,Ct hx (by omega),Ct hy (by omega),g1.zmB (by omega),g3.zmB (by omega),Bool.and_self,cond_true,wv,wx,Tw]
theorem aj1 {L:Lst}(hL:bt L 24=fun a=>wH (aJ a))(run:aw){x y:Rat}{j k:Nat}(hx:Rb j x)(hy:Rb k y)(h:j+k≤1000000):az L run 24 [qt x,qt y] (qt (x+y)):=fun dr hp =>
 bu MB hL run dr hp _ [qt (x+y)] rfl rfl (aen hx hy h)
theorem aj0 {L:Lst}(hL:bt L 34=fun a=>zJ (aJ a))(run:aw){x y:Rat}{j k:Nat}(hx:Rb j x)(hy:Rb k y)(h:j+k≤1000000):az L run 34 [qt x,qt y] (qt (x*y)):=fun dr hp =>
 bu GR hL run dr hp _ [qt (x*y)] rfl rfl (adF hx hy h)
theorem acF {L:Lst}(hL:bt L 69=fun a=>mr (aJ a))(run:aw)(x y:Int)(hx:Zm x)(hy:Zm y):az L run 69 [zs x,zs y] (Ab.bJ (fP x y)):=fun dr hp =>
 bu DB hL run dr hp _ [Ab.bJ (fP x y)] rfl rfl (by simp only[mr,cO x hx,cO y hy])
theorem fT {L:Lst}{g:Nat}{α:Type}{e:α→Ψ}{ok:α→Prop}{f:α→Ψ}(hs:base.shared g=false)(hL:bt L g=fun a=>ctr e ok f (aJ a))(inj:∀ x y,ok x→ok y→e x=e y→f x=f y)(run:aw)(x:α)(hx:ok x)
  (hsn:∀ hp,bj (snap hp bp) (e x)=some (e x,[])) (hc:aJ (e x)=e x):az L run g (e x) (ja (f x)):=fun dr hp =>
 bu hs hL run dr hp _ (f x) (hsn hp) hc (jf inj hx)
abbrev RR:=Rat × Rat
def LQ1:Lst:=[(65,lM),(68,zU),(69,mr),(67,zO),(122,BN),(24,wH),(111,SJ),(112,uh),(48,oN)]
theorem agJ:dt base.P LQ1:=⟨oL,zT,pH,zM,wI,zP,SG,Aa,tR,trivial⟩
def pB (p:Prop):Bool:=@decide p (Classical.propDecidable p)
theorem jd {p:Prop}(h:p):pB p=true:=by unfold pB;exact @decide_eq_true _ (Classical.propDecidable p) h
theorem jR {p:Prop}(h : ¬ p):pB p=false:=by unfold pB;exact @decide_eq_false _ (Classical.propDecidable p) h
theorem aer {p:Prop} : pB p=true ↔ p:=by
 constructor
 ·intro h
  by_cases hp:p
  ·exact hp
  ·rw[jR hp] at h;cases h
 ·exact jd
theorem ajK(s a b:ByteArray)(sl:Bool)(g1:az L run 65 [.sc (.string s)] (.tup [.sc (.string a),.sc (.string b),.sc (.bool sl)]))(g2:az L run 111 [.sc (.string a)] (.sc (.bool false))) :
  ∃ st,af (CC L) run k (f64.body.getD .skip) ⟨entry 34 [.sc (.string s)],[],[]⟩=some (.ret,st)∧bc TT st.fr st.hp f64.results.toList=some [.sc (.bool false)]:=by
 obtain⟨e1,e2⟩:=cL 33 (.sc (.string s))
 generalize entry 34 [.sc (.string s)]=fr0 at *
 unfold az at *
 simp[f64,e1,e2,aM,unP,g1,g2,bc]
theorem ajJ(s a b:ByteArray)(g1:az L run 65 [.sc (.string s)] (.tup [.sc (.string a),.sc (.string b),.sc (.bool false)]))(g2:az L run 111 [.sc (.string a)] (.sc (.bool true))) :
  ∃ st,af (CC L) run k (f64.body.getD .skip) ⟨entry 34 [.sc (.string s)],[],[]⟩=some (.ret,st)∧bc TT st.fr st.hp f64.results.toList=some [.sc (.bool true)]:=by
 obtain⟨e1,e2⟩:=cL 33 (.sc (.string s))
 generalize entry 34 [.sc (.string s)]=fr0 at *
 unfold az at *
 simp[f64,e1,e2,aM,unP,g1,g2,bc]
theorem ajI(s a b:ByteArray)(g1:az L run 65 [.sc (.string s)] (.tup [.sc (.string a),.sc (.string b),.sc (.bool true)]))(g2:az L run 111 [.sc (.string a)] (.sc (.bool true)))(g3:az L run 111 [.sc (.string b)] (.sc (.bool false))) :
  ∃ st,af (CC L) run k (f64.body.getD .skip) ⟨entry 34 [.sc (.string s)],[],[]⟩=some (.ret,st)∧bc TT st.fr st.hp f64.results.toList=some [.sc (.bool false)]:=by
 obtain⟨e1,e2⟩:=cL 33 (.sc (.string s))
 generalize entry 34 [.sc (.string s)]=fr0 at *
 unfold az at *
 simp[f64,e1,e2,aM,unP,g1,g2,g3,undef,bc]
theorem ajH(s a b g:ByteArray)(c:Int)(w1 w2:Bool)(h1:fc .neq a { data:=#[48] } = some (.bool w1))(h2:fc .eql g { data:=#[49] } = some (.bool w2))(g1:az L run 65 [.sc (.string s)] (.tup [.sc (.string a),.sc (.string b),.sc (.bool true)]))(g2:az L run 111 [.sc (.string a)] (.sc (.bool true)))(g3:az L run 111 [.sc (.string b)] (.sc (.bool true)))
  (g4:az L run 69 [.sc (.string b),.sc (.string { data:=#[50] })] (Ab.bJ c)) (g5:az L run 112 [.sc (.string a),.sc (.string b)] (.sc (.string g))) :
  ∃ st,af (CC L) run k (f64.body.getD .skip) ⟨entry 34 [.sc (.string s)],[],[]⟩=some (.ret,st)∧bc TT st.fr st.hp f64.results.toList=some [.sc (.bool (w1 && (decide (0≤c) && w2)))]:=by
 obtain⟨e1,e2⟩:=cL 33 (.sc (.string s))
 generalize entry 34 [.sc (.string s)]=fr0 at *
 unfold az at *
 simp only[Ab.bJ] at *
 cases w1 with
 | false=>simp[f64,e1,e2,aM,unP,g1,g2,g3,h1,undef,bc]
 | true =>
  by_cases hc:0≤c
  ·have hc2:(c ≥ 0)=True:=by simp[hc]
   simp[f64,e1,e2,aM,unP,g1,g2,g3,g4,g5,h1,h2,hc,bc]
  ·have hc2:(c ≥ 0)=False:=by simp only[ge_iff_le,hc]
   simp[f64,e1,e2,aM,unP,g1,g2,g3,g4,h1,hc,undef,bc]
theorem XJ {L:Lst}(hL:bt L 65=fun a=>lM (aJ a))(run:aw)(s:ByteArray)(h9:(bys s).length<20000000):az L run 65 [.sc (.string s)] (.tup [.sc (.string (tx (spl (bys s)).1)),.sc (.string (tx (spl (bys s)).2.1)),.sc (.bool (spl (bys s)).2.2)]):=fun dr hp =>
 bu mf hL run dr hp _ [.sc (.string (tx (spl (bys s)).1)),.sc (.string (tx (spl (bys s)).2.1)),.sc (.bool (spl (bys s)).2.2)] rfl rfl (by have:=GB (bys s) (mO s) h9;rwa [iw] at this)
theorem adj {L:Lst}(hL:bt L 111=fun a=>SJ (aJ a))(run:aw)(l:Ω)(hl:Bok l)(h9:l.length<20000000):az L run 111 [.sc (.string (tx l))] (.sc (.bool (lC l))):=fun dr hp =>
 bu GS hL run dr hp _ [.sc (.bool (lC l))] rfl rfl (by
  have:l.length.blt 20000000=true:=by rw[Nat.blt_eq];exact h9
  simp only[SJ,jO hl,this,cond_true])
theorem ag3 {L:Lst}(hL:bt L 112=fun a=>uh (aJ a))(run:aw)(x y:Int)(hx:Zm x)(hy:Zm y):az L run 112 [zs x,zs y] (zs ((Nat.gcd x.natAbs y.natAbs:Nat):Int)):=fun dr hp =>
 bu Dz hL run dr hp _ [zs ((Nat.gcd x.natAbs y.natAbs:Nat):Int)] rfl rfl (by simp only[uh,cO x hx,cO y hy])
def IsQ (s:ByteArray):Prop:=∃ x:Rat,s=qb x
theorem xQ:∀ {l:Ω} {j:Nat},fK l=some j→l=l.take j++47::l.drop (j+1)
 | a::l,j,h=>by
  simp only[fK] at h
  cases e:a.beq 47 with
  | true =>
   rw[e] at h
   simp at h
   subst h
   rw[agq e];rfl
  | false =>
   rw[e] at h
   simp only[cond_false,Option.map_eq_some_iff] at h
   obtain⟨i,hi,rfl⟩:=h
   have:=xQ hi
   rw[take_succ_cons,drop_succ_cons,cons_append,← this]
theorem afz {s:ByteArray}(h:lC (spl (bys s)).1=false) : ¬ IsQ s:=by
 rintro⟨x,rfl⟩
 rw[kZ,C6] at h
 cases h
theorem abi {s:ByteArray}(h0:(spl (bys s)).2.2=true)(h:lC (spl (bys s)).2.1=false) : ¬ IsQ s:=by
 rintro⟨x,rfl⟩
 rw[kZ,C6] at h
 cases h
theorem KY {s:ByteArray}{z:Int}(h0:(spl (bys s)).2.2=false)(h:(spl (bys s)).1=ztx z):s=qb (z:Rat):=by
 unfold spl at h h0
 cases e:fK (bys s) with
 | some j=>rw[e] at h0;cases h0
 | none =>
  rw[e] at h
  simp only at h
  rw[← iw s,h,qb,Rat.num_intCast,Rat.den_intCast]
  rfl
theorem Fc {s:ByteArray}{n d:Int}(h0:(spl (bys s)).2.2=true)(h1:(spl (bys s)).1=ztx n)(h2:(spl (bys s)).2.1=ztx d)(h3:2≤d)(h4:Nat.gcd n.natAbs d.natAbs=1):∃ x:Rat,s=qb x∧x.num=n∧(x.den:Int)=d:=by
 obtain⟨m,rfl⟩:=Int.eq_ofNat_of_zero_le (show 0≤d by omega)
 refine⟨⟨n,m,by omega,h4⟩,?_,rfl,rfl⟩
 unfold spl at h0 h1 h2
 cases e:fK (bys s) with
 | none=>rw[e] at h0;cases h0
 | some j =>
  rw[e] at h1 h2
  simp only at h1 h2
  rw[← iw s,xQ e,h1,h2,qb,qtx,if_neg (show ¬ ((m:Nat):Int)=1 by have:(2:Int)≤(m:Int):=h3;omega)]
theorem Fe {s:ByteArray}{n d:Int}(h0:(spl (bys s)).2.2=true)(h1:(spl (bys s)).1=ztx n)(h2:(spl (bys s)).2.1=ztx d)(h:IsQ s):n≠0∧2≤d∧Nat.gcd n.natAbs d.natAbs=1:=by
 obtain⟨x,rfl⟩:=h
 rw[kZ] at h0 h1 h2
 simp only[Bool.not_eq_true',decide_eq_false_iff_not] at h0
 have e1:=qi h1
 have e2:=qi h2
 have h3:=x.den_pos
 have h4:=x.reduced
 subst e1
 rw[← e2]
 refine⟨fun e => ?_,by omega,by simpa using h4⟩
 rw[e] at h4
 simp at h4
 omega
theorem JI {l:Ω}{z:Int}(h:l=ztx z)(h9:l.length<2000000):Zm z:=by
 unfold Zm fO
 rw[← h];omega
def isF:Ψ→Option Ψ:=ctr (fun s:ByteArray=>[.sc (.string s)]) (fun s=>(bys s).length<1000000) fun s=>[.sc (.bool (pB (IsQ s)))]
theorem aeK (z:Int):fc .neq (tx (ztx z)) { data:=#[48] } = some (.bool (!decide (z=0))):=by
 have e:({ data:=#[48] } : ByteArray)=tx (ztx 0):=rfl
 rw[e,aaJ]
 by_cases h:z=0
 ·subst h;simp
 ·rw[decide_eq_false h,decide_eq_false fun e2=>h (qi (Ig (kX z) (kX 0) e2))]
theorem abh:Ab.Spec base.P 64 isF:=Ab.Spec.bN (C:=CC LQ1) (cP agJ) fun args rs h=>by
 obtain⟨s,h9,rfl,rfl⟩:=cV h
 have hl:=uZ (bys s)
 have hB:=QZ (mO s)
 have gs:=XJ (L:=LQ1) rfl (runK (CC LQ1) 1) s (by omega)
 have ga:=adj (L:=LQ1) rfl (runK (CC LQ1) 1) (spl (bys s)).1 hB.1 (by omega)
 have gb:=adj (L:=LQ1) rfl (runK (CC LQ1) 1) (spl (bys s)).2.1 hB.2 (by omega)
 show ∃ k rs1 hp1 wr rs2 ids,_∧_∧WkL rs2 [.sc (.bool (pB (IsQ s)))]
 cases va:lC (spl (bys s)).1 with
 | false =>
  rw[va] at ga
  rw[jR (afz va)]
  obtain⟨st,x1,x2⟩:=ajK LQ1 (runK (CC LQ1) 1) 1 _ _ _ _ gs ga
  exact⟨2,_,_,_,_,_,aV pc rfl x1 x2,rfl,Wk.refl rfl,trivial⟩
 | true =>
  rw[va] at ga
  obtain⟨n,hn⟩:=y6 va
  cases hs:(spl (bys s)).2.2 with
  | false =>
   rw[hs] at gs
   rw[jd ⟨_,KY hs hn⟩]
   obtain⟨st,x1,x2⟩:=ajJ LQ1 (runK (CC LQ1) 1) 1 _ _ _ gs ga
   exact⟨2,_,_,_,_,_,aV pc rfl x1 x2,rfl,Wk.refl rfl,trivial⟩
  | true =>
   rw[hs] at gs
   cases vb:lC (spl (bys s)).2.1 with
   | false =>
    rw[vb] at gb
    rw[jR (abi hs vb)]
    obtain⟨st,x1,x2⟩:=ajI LQ1 (runK (CC LQ1) 1) 1 _ _ _ gs ga gb
    exact⟨2,_,_,_,_,_,aV pc rfl x1 x2,rfl,Wk.refl rfl,trivial⟩
   | true =>
    rw[vb] at gb
    obtain⟨d,hd⟩:=y6 vb
    have zn:=JI hn (by omega)
    have zd:=JI hd (by omega)
    have gc:=acF (L:=LQ1) rfl (runK (CC LQ1) 1) d 2 zd (by unfold Zm;decide)
    have gg:=ag3 (L:=LQ1) rfl (runK (CC LQ1) 1) n d zn zd
    rw[hn] at gs ga
    rw[hd] at gs gb
    obtain⟨st,x1,x2⟩:=ajH LQ1 (runK (CC LQ1) 1) 1 _ _ _ _ _ _ _ (aeK n) (oW _) gs ga gb gc gg
    refine⟨2,_,_,_,_,_,aV pc rfl x1 x2,rfl,?_,trivial⟩
    have e:pB (IsQ s)=(!decide (n=0) && (decide (0≤fP d 2) && decide (((Nat.gcd n.natAbs d.natAbs:Nat):Int)=1))):=by
     have hc:0≤fP d 2 ↔ 2≤d:=by
      unfold fP
      by_cases h1:d<2
      ·rw[if_pos h1];omega
      ·rw[if_neg h1];split <;> omega
     by_cases hq:IsQ s
     ·obtain⟨q1,q2,q3⟩:=Fe hs hn hd hq
      rw[jd hq,decide_eq_false q1,decide_eq_true (hc.2 q2),q3];rfl
     ·rw[jR hq]
      by_cases q2:2≤d
      ·by_cases q3:Nat.gcd n.natAbs d.natAbs=1
       ·obtain⟨x,hx,-⟩:=Fc hs hn hd q2 q3
        exact absurd ⟨x,hx⟩ hq
       ·have : ¬ (((Nat.gcd n.natAbs d.natAbs:Nat):Int)=1):=by omega
        rw[decide_eq_false this];simp
      ·rw[decide_eq_false fun e=>q2 (hc.1 e)];simp
    rw[e]
    exact Wk.refl rfl
theorem A7:base.F.get 98=some f98:=by kernel_rfl
theorem YS:base.shared 98=false:=by kernel_rfl
def wxC:Code:=f98.body.getD .skip
def wxO:Code:=(aA (seq1 (ag 3 wxC))).getD .skip
def wxI:Code:=(aA wxO).getD .skip
def blk:Code→Code
 | .block _ c=>c
 | c=>c
def adz:Code:=seq1 wxO
def ady:Code:=seq1 (bn wxO)
def Yo:Code:=seq1 (blk (seq1 (bn (bn wxO))))
def Yn:Code:=seq1 (bn (blk (seq1 (bn (bn wxO)))))
def P5:Code:=bn (bn (bn wxO))
theorem adx:wxO = .seq adz (.seq ady (.seq (.block 1 (.seq Yo (.seq Yn (.block 2 (.loop wxI))))) P5)):=rfl
def WF (fr:Ψ)(l:Ω)(i:Nat):Prop:=fr.length=81∧nth fr 1 = .ptr 0 0∧nth fr 19=aO l∧nth fr 20=iv l.length∧nth fr 21=iv i
theorem Yp (L:Lst)(run:aw)(k:Nat)(fr:Ψ)(hp:Θ)(wr:Ω)(l:Ω)(i:Nat)(h:WF fr l i)(h25:nth fr 25=iv 9) :
  ∃ fr',af (CC L) run k wxI ⟨fr,hp,wr⟩=some (.exit 2,⟨fr',hp,wr⟩)∧WF fr' l i∧nth fr' 3=nth fr 3:=by
 obtain⟨h0,h1,h19,h20,h21⟩:=h
 simp only[iv] at h25
 simp[WF,wxI,wxO,wxC,f98,and_assoc,h0,h1,h19,h20,h21,h25]
set_option maxHeartbeats 1000000 in
theorem LW (L:Lst)(run:aw)(k:Nat)(fr:Ψ)(hp:Θ)(wr:Ω)(l out:Ω)(i c x:Nat)(hx:x≤4294967295)(hc:c<9)(h9:out.length<90000000)(h:WF fr l i)(h25:nth fr 25=iv c)(h5:nth fr 5 = .sc (.int .u32 (x:Int)))(hO:dw u8v 1 hp out (nth fr 3)) :
  ∃ fr' hp' wr',af (CC L) run k wxI ⟨fr,hp,wr⟩=some (.normal,⟨fr',hp',wr'⟩)∧WF fr' l i∧nth fr' 25=iv (c+1)∧nth fr' 5 = .sc (.int .u32 ((x / 10:Nat):Int))∧dw u8v 1 hp' (out++[x % 10+48]) (nth fr' 3)∧aP hp' 0=aP hp 0:=by
 obtain⟨h0,h1,h19,h20,h21⟩:=h
 obtain⟨d,hd⟩:∃ d,d=x % 10:=⟨_,rfl⟩
 obtain⟨q,hq⟩:∃ q,q=x / 10:=⟨_,rfl⟩
 rw[← hd,← hq]
 have hd9:d<10:=by rw[hd];exact Nat.mod_lt _ (by decide)
 have hq9:q≤4294967295:=by rw[hq];exact Nat.le_trans (Nat.div_le_self _ _) hx
 have hw3:bF .u32 (q:Int)=(q:Int):=cq .u32 q (iM hq9)
 clear hx hq9
 obtain⟨b,hb⟩:∃ b,b=d+48:=⟨_,rfl⟩
 have hb9:b≤255:=by clear hd hq;omega
 rw[← hb]
 obtain⟨p',hp',fp,g1,g2,g3⟩:=hO.app b (by clear hd hq;omega)
 have g4:=g3 0 (by decide)
 have hw1:bF .u32 (48+(d:Int))=(b:Int):=by rw[show (48+(d:Int))=(b:Int) by clear hd hq;omega];exact cq .u32 b (iM (Nat.le_trans hb9 (by decide)))
 have hw2:bF .u8 (b:Int)=(b:Int):=cq .u8 b hb9
 have hw4:=bA c (Nat.lt_trans hc (by decide))
 have hc2:(c:Int)<9:=by clear hd hq;omega
 have htm:(x:Int).tmod 10=(d:Int):=by rw[hd];rfl
 have htq:(x:Int) / 10=(q:Int):=by rw[hq];rfl
 clear hd hq
 have hlX:=K9 b
 simp only[iv] at h25 ⊢
 simp[WF,wxI,wxO,wxC,f98,soft,eu,bf,and_assoc,bd,lQ,h0,h1,h19,h20,h21,h25,h5,hc2,htm,htq,u32,u8T,dI,hw1,hw2,hw3,hw4,hlX,Kw,pP,qu,sU8,bU8,zU8,bQ,g1,g2,g4]
theorem CU (L:Lst)(run:aw)(k:Nat)(l:Ω)(i:Nat):∀ (n c x:Nat) (fr:Ψ) (hp:Θ) (wr out:Ω),c+n=9→x≤4294967295→out.length+n<90000000→WF fr l i→nth fr 25=iv c→nth fr 5 = .sc (.int .u32 (x:Int))→dw u8v 1 hp out (nth fr 3) →
  ∃ (fr':Ψ) (hp':Θ) (wr':Ω),ch (af (CC L) run k wxI) (n+1) ⟨fr,hp,wr⟩=some (.exit 2,⟨fr',hp',wr'⟩)∧WF fr' l i∧dw u8v 1 hp' (out++(T.db n x).map (· + 48)) (nth fr' 3)∧aP hp' 0=aP hp 0
 | 0,c,x,fr,hp,wr,out,hc,hx,h9,h,h25,h5,hO=>by
  have:c=9:=by omega
  subst this
  obtain⟨fr',q1,q2,q3⟩:=Yp L run k fr hp wr l i h h25
  refine⟨fr',hp,wr,bE q1,q2,?_,rfl⟩
  rw[q3]
  simpa [T.db] using hO
 | n+1,c,x,fr,hp,wr,out,hc,hx,h9,h,h25,h5,hO=>by
  obtain⟨fr1,hp1,wr1,q1,q2,q3,q4,q5,q6⟩:=LW L run k fr hp wr l out i c x hx (by omega) (by omega) h h25 h5 hO
  obtain⟨fr',hp',wr',s1,s2,s3,s4⟩:=CU L run k l i n (c+1) (x / 10) fr1 hp1 wr1 _ (by omega) (Nat.le_trans (Nat.div_le_self _ _) hx) (by simp;omega) q2 q3 q4 q5
  refine⟨fr',hp',wr',by rw[ca q1];exact s1,s2,?_,by rw[s4,q6]⟩
  rw[append_assoc] at s3
  exact s3
theorem OZ {C:Cfg}{run:aw}{k:Nat}{a b c:Code}{st st':St}(h:af C run k (.seq a b) st=some (.normal,st')):af C run k (.seq a (.seq b c)) st=af C run k c st':=by
 simp only[af] at h ⊢
 cases e:af C run k a st with
 | none=>rw[e] at h;cases h
 | some r =>
  obtain⟨x,s⟩:=r
  rw[e] at h
  cases x with
  | normal=>simp only at h ⊢;rw[h]
  | _=>simp at h
theorem Ym (L:Lst)(run:aw)(k:Nat)(fr:Ψ)(hp:Θ)(wr:Ω)(l:Ω)(h:WF fr l l.length) :
  ∃ fr',af (CC L) run k wxO ⟨fr,hp,wr⟩=some (.exit 0,⟨fr',hp,wr⟩)∧WF fr' l l.length∧nth fr' 3=nth fr 3:=by
 obtain⟨h0,h1,h19,h20,h21⟩:=h
 simp only[iv] at h20 h21
 simp[WF,iv,wxO,wxC,f98,and_assoc,h0,h1,h19,h20,h21]
theorem ahp (L:Lst)(run:aw)(k:Nat)(fr:Ψ)(hp:Θ)(wr:Ω)(l:Ω)(i:Nat)(hi:i<l.length)(h:WF fr l i) :
  ∃ fr1 fr',af (CC L) run k adz ⟨fr,hp,wr⟩=some (.normal,⟨fr1,hp,wr⟩)∧af (CC L) run k ady ⟨fr1,hp,wr⟩=some (.normal,⟨fr1,hp,wr⟩)∧af (CC L) run k (.seq Yo Yn) ⟨fr1,hp,wr⟩=some (.normal,⟨fr',hp,wr⟩)∧WF fr' l i∧nth fr' 25=iv 0∧nth fr' 5 = .sc (.int .u32 (l[i]:Int))∧nth fr' 3=nth fr 3:=by
 obtain⟨h0,h1,h19,h20,h21⟩:=h
 have hd:=eQ l i hi
 have e1:aO l = .imm l.length false (l.map dg):=rfl
 have e2:dg l[i] = .sc (.int .u32 (l[i]:Int)):=rfl
 rw[e1] at h19
 rw[e2] at hd
 generalize l[i]=d at *
 simp only[iv] at h20 h21
 refine⟨eY fr 22 (.sc (.bool true)),?_⟩
 simp[WF,e1,iv,adz,ady,Yo,Yn,blk,bn,wxO,wxC,f98,aU,bh,partOf,bf,and_assoc,h0,h1,h19,h20,h21,hi,hd,uD,s32,a32,aX]
theorem aho (L:Lst)(run:aw)(k:Nat)(fr:Ψ)(hp:Θ)(wr:Ω)(l:Ω)(i:Nat)(hi:i<1000000)(h:WF fr l i) :
  ∃ fr',af (CC L) run k P5 ⟨fr,hp,wr⟩=some (.normal,⟨fr',hp,wr⟩)∧WF fr' l (i+1)∧nth fr' 3=nth fr 3:=by
 obtain⟨h0,h1,h19,h20,h21⟩:=h
 have hw:=bA i (by omega)
 simp only[iv] at h20 h21
 simp[WF,iv,P5,bn,wxO,wxC,f98,and_assoc,h0,h1,h19,h20,h21,hw]
theorem CT (L:Lst)(run:aw)(k:Nat)(hk:10≤k)(l:Ω)(hl:Dok l)(h9:l.length<1000000):∀ (n i:Nat) (fr:Ψ) (hp:Θ) (wr out:Ω),i+n=l.length→out.length=9*i→WF fr l i→dw u8v 1 hp out (nth fr 3) →
  ∃ (fr':Ψ) (hp':Θ) (wr':Ω),ch (af (CC L) run k wxO) (n+1) ⟨fr,hp,wr⟩=some (.exit 0,⟨fr',hp',wr'⟩)∧WF fr' l l.length∧dw u8v 1 hp' (out++((l.drop i).flatMap (T.db 9)).map (· + 48)) (nth fr' 3)∧aP hp' 0=aP hp 0
 | 0,i,fr,hp,wr,out,hin,ho,h,hO=>by
  have:i=l.length:=by omega
  subst this
  obtain⟨fr',q1,q2,q3⟩:=Ym L run k fr hp wr l h
  refine⟨fr',hp,wr,bE q1,q2,?_,rfl⟩
  rw[q3]
  simpa using hO
 | n+1,i,fr,hp,wr,out,hin,ho,h,hO=>by
  have hi:i<l.length:=by omega
  obtain⟨fr1,fr2,a1,a2,a3,a4,a5,a6,a7⟩:=ahp L run k fr hp wr l i hi h
  have hd:=hl.get hi
  obtain⟨fr3,hp3,wr3,b1,b2,b3,b4⟩:=CU L run k l i 9 0 l[i] fr2 hp wr out (by omega) (by omega) (by omega) a4 a5 a6 (by rw[a7];exact hO)
  obtain⟨fr4,c1,c2,c3⟩:=aho L run k fr3 hp3 wr3 l i (by omega) b2
  have hgo:af (CC L) run k wxO ⟨fr,hp,wr⟩=some (.normal,⟨fr4,hp3,wr3⟩):=by
   rw[adx,ar a1,ar a2]
   have hb1:=bK (i:=2) (bT b1 hk)
   have hb2:af (CC L) run k (.seq Yo (.seq Yn (.block 2 (.loop wxI)))) ⟨fr1,hp,wr⟩=some (.normal,⟨fr3,hp3,wr3⟩):=by
    rw[OZ a3];exact hb1
   rw[ar (fF hb2)]
   exact c1
  obtain⟨fr',hp',wr',s1,s2,s3,s4⟩:=CT L run k hk l hl h9 n (i+1) fr4 hp3 wr3 (out++(T.db 9 l[i]).map (· + 48)) (by omega) (by rw[length_append,length_map,T.dp];omega) c2 (by rw[c3];exact b3)
  refine⟨fr',hp',wr',by rw[ca hgo];exact s1,s2,?_,by rw[s4,b4]⟩
  rw[append_assoc] at s3
  rw[drop_eq_getElem_cons hi,flatMap_cons,map_append]
  exact s3
def wxT:Code:=(aA (seq1 (ag 4 wxC))).getD .skip
theorem vn (l:Ω)(i:Nat)(h:i<l.length):(bq (l.map u8v) i).head?=some (.sc (.int .u8 (at0 l i:Int))):=by
 rw[kr l i h,df h];rfl
theorem X8 (L:Lst)(run:aw)(k:Nat)(fr:Ψ)(hp:Θ)(wr:Ω)(lz:Ω)(id n:Nat)(hn:n+1≤lz.length)(hn9:n<100000000)(hz:at0 lz n≠48)(h0:fr.length=81)(h1:nth fr 1 = .ptr 0 0)(h3:nth fr 3 = .own id 1 0 (n+1) false)(hb:aP hp id=some ⟨.live,lz.map u8v⟩) :
  ∃ fr',af (CC L) run k wxT ⟨fr,hp,wr⟩=some (.exit 4,⟨fr',hp,wr⟩)∧fr'.length=81∧nth fr' 1 = .ptr 0 0∧nth fr' 3 = .own id 1 0 (n+1) false:=by
 have hd:=vn lz n (by omega)
 have hw:bF .i64 (n:Int)=(n:Int):=cq .i64 n (hiI (by omega))
 have hz1:((at0 lz n:Int) == 48)=false:=by rw[beq_eq_false_iff_ne];omega
 generalize at0 lz n=a at *
 have hz2 : ¬ ((a:Int)=48):=by omega
 simp[wxT,wxC,f98,bL,aU,bh,partOf,bf,iq,h0,h1,h3,hb,hd,hw,hz1,qu,sU8,a8,aX]
theorem LS (L:Lst)(run:aw)(k:Nat)(fr:Ψ)(hp:Θ)(wr:Ω)(lz:Ω)(id n:Nat)(hn:n+1≤lz.length)(hn9:n<100000000)(hz:at0 lz n=48)(h0:fr.length=81)(h1:nth fr 1 = .ptr 0 0)(h3:nth fr 3 = .own id 1 0 (n+1) false)(hb:aP hp id=some ⟨.live,lz.map u8v⟩) :
  ∃ fr',af (CC L) run k wxT ⟨fr,hp,wr⟩=some (.normal,⟨fr',hp,wr⟩)∧fr'.length=81∧nth fr' 1 = .ptr 0 0∧nth fr' 3 = .own id 1 0 n false:=by
 have hd:=vn lz n (by omega)
 have hw:bF .i64 (n:Int)=(n:Int):=cq .i64 n (hiI (by omega))
 rw[hz] at hd
 simp[wxT,wxC,f98,bL,aU,bh,partOf,bf,iq,h0,h1,h3,hb,hd,hw,qu,sU8,a8,aX,dh,iy,bnd,eD,fz]
theorem CR (L:Lst)(run:aw)(k:Nat)(hp:Θ)(wr:Ω)(lz:Ω)(id:Nat)(hb:aP hp id=some ⟨.live,lz.map u8v⟩):∀ (n:Nat) (fr:Ψ),n+1≤lz.length→n<100000000→(∃ m,m<n+1∧at0 lz m≠48)→fr.length=81→nth fr 1 = .ptr 0 0→nth fr 3 = .own id 1 0 (n+1) false →
  ∃ fr' c,ch (af (CC L) run k wxT) (n+1) ⟨fr,hp,wr⟩=some (.exit 4,⟨fr',hp,wr⟩)∧fr'.length=81∧nth fr' 1 = .ptr 0 0∧nth fr' 3 = .own id 1 0 (c+1) false∧c≤n∧at0 lz c≠48∧∀ j,c<j→j<n+1→at0 lz j=48
 | n,fr,hn,hn9,hm,h0,h1,h3=>by
  by_cases hz:at0 lz n=48
  ·obtain⟨m,hm1,hm2⟩:=hm
   cases n with
   | zero =>
    have:m=0:=by omega
    subst this
    exact absurd hz hm2
   | succ n =>
    have hmn:m≠n+1:=fun e=>hm2 (by rw[e];exact hz)
    obtain⟨fr1,q1,q2,q3,q4⟩:=LS L run k fr hp wr lz id (n+1) hn hn9 hz h0 h1 h3 hb
    obtain⟨fr',c,s1,s2,s3,s4,s5,s6,s7⟩:=CR L run k hp wr lz id hb n fr1 (by omega) (by omega) ⟨m,by omega,hm2⟩ q2 q3 q4
    refine⟨fr',c,by rw[ca q1];exact s1,s2,s3,s4,by omega,s6,fun j hj hj2 => ?_⟩
    by_cases e:j=n+1
    ·rw[e];exact hz
    ·exact s7 j hj (by omega)
  ·obtain⟨fr',q1,q2,q3,q4⟩:=X8 L run k fr hp wr lz id n hn hn9 hz h0 h1 h3 hb
   exact⟨fr',n,bE q1,q2,q3,q4,Nat.le_refl _,hz,fun j h1 h2=>by omega⟩
def wxN:Code:=seq1 (ag 5 wxC)
theorem P6 (L:Lst)(run:aw)(k:Nat)(fr:Ψ)(hp:Θ)(wr:Ω)(m:Bool)(l dd:Ω)(h9:l.length<90000000)(h0:fr.length=81)(h1:nth fr 1 = .ptr 0 0)(hb:aP hp 0=some ⟨.live,[.sc (.bool m),aO dd]⟩)(hO:dw u8v 1 hp l (nth fr 3)) :
  ∃ fr' hp' wr',af (CC L) run k wxN ⟨fr,hp,wr⟩=some (.normal,⟨fr',hp',wr'⟩)∧fr'.length=81∧dw u8v 1 hp' (l++(bif m then [45] else [])) (nth fr' 3):=by
 cases m with
 | false =>
  simp[wxN,wxC,f98,bP,partOf,bf,and_assoc,h0,h1,hb,hO,aX,bq,uW,wf0,wf1,sB,aB]
 | true =>
  obtain⟨p',hp',fp,g1,g2,g3⟩:=hO.app 45 (by omega)
  have hlX:eM TT 43 1 [(0,.sc (.int .u8 45))]=some (1,[u8v 45]):=K9 45
  simp[wxN,wxC,f98,soft,eu,bP,partOf,bf,and_assoc,bd,lQ,h0,h1,hb,hlX,Kw,pP,qu,sU8,bU8,zU8,bQ,g1,g2,aX,bq,uW,wf0,wf1,sB,aB]
def wxS:Code:=(aA (seq1 (ag 6 wxC))).getD .skip
def LU:Code:=blk (seq1 (bn wxS))
theorem ahn:((Region.before (iP LU))[13]?.getD 0).testBit 7=true:=by kernel_rfl
theorem ahm:((Region.before (iP LU))[13]?.getD 0).testBit 11=true:=by kernel_rfl
theorem ahl:((Region.before (iP LU))[15]?.getD 0).testBit 7=true:=by kernel_rfl
theorem ahk:((Region.before (iP LU))[15]?.getD 0).testBit 11=true:=by kernel_rfl
theorem ahj:((Region.before (iP LU))[15]?.getD 0).testBit 13=true:=by kernel_rfl
theorem X9 (L:Lst)(run:aw)(k:Nat)(fr:Ψ)(hp:Θ)(wr:Ω)(i j:Nat)(hij:j≤i+1)(h0:fr.length=81)(h6:nth fr 6=iv i)(h7:nth fr 7 = .sc (.int .i64 ((j:Int) - 1))) :
  ∃ fr',af (CC L) run k wxS ⟨fr,hp,wr⟩=some (.exit 6,⟨fr',hp,wr⟩)∧fr'.length=81∧nth fr' 3=nth fr 3:=by
 have hlt : ¬ ((i:Int)<(j:Int) - 1):=by omega
 simp only[iv] at h6
 simp[wxS,wxC,f98,h0,h6,h7,hlt]
set_option maxHeartbeats 8000000 in
theorem LV (L:Lst)(run:aw)(k:Nat)(fr:Ψ)(hp:Θ)(wr:Ω)(lz:Ω)(id n i j:Nat)(hn9:n<100000000)(hn:n≤lz.length)(hb:aP hp id=some ⟨.live,lz.map u8v⟩)(hij:i<j)(hj:j<n)(h0:fr.length=81)(h3:nth fr 3 = .own id 1 0 n false)(h6:nth fr 6=iv i)(h7:nth fr 7 = .sc (.int .i64 (j:Int))) :
  ∃ fr' wr',af (CC L) run k wxS ⟨fr,hp,wr⟩=some (.normal,⟨fr',bZ (bZ hp id ⟨.live,(lz.set i (at0 lz j)).map u8v⟩) id ⟨.live,((lz.set i (at0 lz j)).set j (at0 lz i)).map u8v⟩,wr'⟩)∧fr'.length=81∧nth fr' 3 = .own id 1 0 n false∧nth fr' 6=iv (i+1)∧nth fr' 7 = .sc (.int .i64 ((j:Int) - 1)):=by
 have hin:i<n:=by omega
 have hil:i<lz.length:=by omega
 have hjl:j<lz.length:=by omega
 have hw1:=cM j (Nat.lt_trans (Nat.lt_trans hj hn9) (by decide))
 have hwi:=bA i (Nat.lt_trans (Nat.lt_trans hin hn9) (by decide))
 have hd1:=vn lz i hil
 have hd2:=vn lz j hjl
 have hov:=mu (e:=u8v) lz i (at0 lz j) hil
 have hov2:=mu (e:=u8v) (lz.set i (at0 lz j)) j (at0 lz i) (by rw[length_set];exact hjl)
 have hsb:aP (bZ hp id ⟨.live,(lz.set i (at0 lz j)).map u8v⟩) id=some ⟨.live,(lz.set i (at0 lz j)).map u8v⟩:=by rw[cI hb,if_pos rfl]
 generalize at0 lz i=a at *
 generalize at0 lz j=c at *
 have hb1:=ahn
 have hb2:=ahm
 have hb3:=ahl
 have hb4:=ahk
 have hb5:=ahj
 simp[-Nat.testBit_zero,LU,wxS,wxC,blk,f98,bn,iP] at hb1 hb2 hb3 hb4 hb5
 simp only[iv] at h6 ⊢
 simp[-Nat.testBit_zero,-map_set,hb1,hb2,hb3,hb4,hb5,wxS,wxC,f98,aU,bh,partOf,bf,and_assoc,bd,FK,lQ,h0,h3,h6,h7,qu,sU8,a8,aX,hb,hsb,hij,hin,hj,hw1,hwi,hd1,hd2,hov,hov2,acQ a,acQ c,number,FP.free,cD,FP.apart]
end Go.Proofs.YtjdmodeenbdfpaaGreat
end
