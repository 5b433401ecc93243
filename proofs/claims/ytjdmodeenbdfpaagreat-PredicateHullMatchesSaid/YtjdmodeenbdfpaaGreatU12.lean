/- An abstract interpreter over the model's code and its soundness, part 12; each lemma states its conditions. -/
import Derived.Test.YtjdmodeenbdfpaaGreatU11
set_option linter.unusedSimpArgs false
set_option linter.unusedVariables false
namespace Go.Ab
open Go List
def GI (top v1 v2 u2 g rest:Nat):Prop:=g*v1+rest=top∧∀ q,q<1000000000→q*(v1*1000000000+v2)≤top*1000000000+u2→q≤g
def GF (top v1 v2 u2 g:Nat):Prop:=g<1000000000∧g*(v1*1000000000+v2)≤top*1000000000+u2∧∀ q,q<1000000000→q*(v1*1000000000+v2)≤top*1000000000+u2→q≤g
theorem GI.init {top v1 v2 u2:Nat}(hv:0<v1)(hu:u2<1000000000):GI top v1 v2 u2 (top / v1) (top % v1):=by
 refine⟨by rw[Nat.mul_comm];exact Nat.div_add_mod _ _,fun q hq h => ?_⟩
 rw[Nat.le_div_iff_mul_le hv]
 have:q*(v1*1000000000+v2)=q*v1*1000000000+q*v2:=by rw[Nat.mul_add,Nat.mul_assoc]
 rw[this] at h
 omega
theorem aje (g v1 v2:Nat):g*(v1*1000000000+v2)=g*v1*1000000000+g*v2:=by rw[Nat.mul_add,Nat.mul_assoc]
theorem GI.step {top v1 v2 u2 g rest:Nat}(h:GI top v1 v2 u2 g rest)(hc:1000000000≤g∨rest*1000000000+u2<g*v2):0<g∧GI top v1 v2 u2 (g - 1) (rest+v1):=by
 obtain⟨h1,h2⟩:=h
 have hg:0<g:=by
  rcases hc with hc | hc
  ·omega
  ·cases g with
   | zero=>simp at hc
   | succ g=>omega
 refine⟨hg,?_,fun q hq h => ?_⟩
 ·obtain⟨g',rfl⟩:∃ g',g=g'+1:=⟨g - 1,by omega⟩
  rw[Nat.add_mul,Nat.one_mul] at h1
  simp only[Nat.add_sub_cancel]
  omega
 ·have h3:=h2 q hq h
  rcases hc with hc | hc
  ·omega
  ·rcases Nat.lt_or_ge q g with h4 | h4
   ·omega
   ·have e:q=g:=by omega
    subst e
    rw[aje] at h
    omega
theorem GI.stop {top v1 v2 u2 g rest:Nat}(h:GI top v1 v2 u2 g rest)(hc:g<1000000000)(hc2:g*v2≤rest*1000000000+u2):GF top v1 v2 u2 g:=by
 refine⟨hc,?_,h.2⟩
 have:=h.1
 rw[aje]
 omega
theorem GI.brk {top v1 v2 u2 g rest:Nat}(h:GI top v1 v2 u2 g rest)(hr:1000000000≤rest)(ht:top≤v1*1000000000+999999999)(hv:v2<1000000000):GF top v1 v2 u2 g:=by
 have hg:g<1000000000:=by
  rcases Nat.lt_or_ge g 1000000000 with h' | h'
  ·exact h'
  ·have h1:=h.1
   have:=Nat.mul_le_mul_right v1 h'
   rw[Nat.mul_comm 1000000000 v1] at this
   omega
 refine h.stop hg ?_
 have:g*v2≤999999999*999999999:=Nat.mul_le_mul (by omega) (by omega)
 omega
theorem BP {U V T3 V2 P ulow vlow g:Nat}(hU:U=T3*P+ulow)(hul:ulow<P)(hV:V=V2*P+vlow)(hvl:vlow<P)(hVB:1000000000*P≤V)(hUV:U<V*1000000000)(hg:g<1000000000)
  (hg1:g*V2≤T3) (hg2:∀ q,q<1000000000→q*V2≤T3→q≤g):g=U / V∨g=U / V+1:=by
 have hV0:0<V:=by
  have:0<P:=by omega
  omega
 have hq1:U / V<1000000000:=Nat.div_lt_of_lt_mul hUV
 have hdm:=Nat.div_add_mod U V
 have hmod:=Nat.mod_lt U hV0
 generalize U / V=q at *
 generalize U % V=r at *
 have hqg:q≤g:=by
  refine hg2 q hq1 ?_
  have h1:q*V2*P<(T3+1)*P:=by
   have h2:q*V2*P≤V*q:=by
    rw[hV,Nat.add_mul,Nat.mul_comm (V2*P) q,← Nat.mul_assoc];exact Nat.le_add_right _ _
   rw[Nat.add_mul,Nat.one_mul]
   omega
  exact Nat.le_of_lt_succ (Nat.lt_of_mul_lt_mul_right h1)
 have hgV:g*V<U+V:=by
  have h1:g*V2*P≤T3*P:=Nat.mul_le_mul_right _ hg1
  have h2:g*vlow≤999999999*P:=Nat.mul_le_mul (by omega) (by omega)
  have h3:g*V=g*V2*P+g*vlow:=by rw[hV,Nat.mul_add,Nat.mul_assoc]
  omega
 rcases Nat.lt_or_ge g (q+2) with h | h
 ·omega
 ·have h1:(q+2)*V≤g*V:=Nat.mul_le_mul_right _ h
  rw[Nat.add_mul,Nat.mul_comm q V] at h1
  omega
def msS (u v g bo:Nat):Nat:=bo+g*v+(999999999 - u)
def msX (u v g bo:Nat):Nat:=999999999 - msS u v g bo % 1000000000
def msB (u v g bo:Nat):Nat:=msS u v g bo / 1000000000
theorem adP {u v g bo:Nat}(hu:u<1000000000):u+msB u v g bo*1000000000=msX u v g bo+bo+g*v:=by
 unfold msX msB
 have h1:msS u v g bo=bo+g*v+(999999999 - u):=rfl
 generalize msS u v g bo=s at *
 generalize g*v=p at *
 omega
theorem IA (u v g bo:Nat):msX u v g bo<1000000000:=by unfold msX;omega
theorem afH {u v g bo:Nat}(hu:u<1000000000)(hv:v<1000000000)(hb:bo≤g):msB u v g bo≤g:=by
 have h1:=adP (v:=v) (g:=g) (bo:=bo) hu
 have h2:=IA u v g bo
 have h3:g*v≤g*999999999:=Nat.mul_le_mul_left _ (by omega)
 generalize msB u v g bo=b at *
 generalize msX u v g bo=x at *
 generalize g*v=p at *
 omega
theorem abF {u v g bo p:Nat}(hp:p=g*v)(hu:u<1000000000)(hg:g<1000000000)(hb:bo≤g) :
  (bo+p % 1000000000≤u∧msX u v g bo=u - (bo+p % 1000000000)∧msB u v g bo=p / 1000000000) ∨
  (u<bo+p % 1000000000∧bo+p % 1000000000≤u+1000000000∧msX u v g bo=u+1000000000 - (bo+p % 1000000000)∧msB u v g bo=p / 1000000000+1) ∨
  (u+1000000000<bo+p % 1000000000∧msX u v g bo=u+2000000000 - (bo+p % 1000000000)∧msB u v g bo=p / 1000000000+2):=by
 unfold msX msB
 have h1:msS u v g bo=bo+p+(999999999 - u):=by rw[hp];rfl
 generalize msS u v g bo=s at *
 clear hp
 omega
theorem tC (u:Ω)(j i x:Nat)(h:j+i<u.length):val (((u.set (j+i) x).drop j).take (i+1))=val ((u.drop j).take i)+x*1000000000 ^ i:=by
 have e:(u.set (j+i) x).drop j=(u.drop j).set i x:=by
  rw[drop_set,if_neg (by omega)]
  congr 1
  omega
 rw[e,cu]
 congr 1
 ·congr 1
  rw[take_set_of_le (by omega)]
 ·congr 1
  unfold at0
  rw[getElem?_set_self (by simp;omega)]
  rfl
theorem gj (u:Ω)(j i:Nat):val ((u.drop j).take (i+1))=val ((u.drop j).take i)+at0 u (j+i)*1000000000 ^ i:=by
 rw[cu]
 congr 2
 unfold at0
 rw[getElem?_drop]
structure MS (u v c:Ω) (j g i bo:Nat):Prop where
 len:c.length=u.length
 ok:Dok c
 low:c.take j=u.take j
 high:c.drop (j+i)=u.drop (j+i)
 le:bo≤g
 eq:val ((u.drop j).take i)+bo*1000000000 ^ i=val ((c.drop j).take i)+g*val (v.take i)
theorem MS.init {u v:Ω}(hu:Dok u)(j g:Nat):MS u v u j g 0 0:=⟨rfl,hu,rfl,rfl,by omega,by simp[Ab.val]⟩
theorem MS.at {u v c:Ω}{j g i bo:Nat}(h:MS u v c j g i bo):at0 c (j+i)=at0 u (j+i):=by
 have h1:at0 c (j+i)=at0 (c.drop (j+i)) 0:=by simp[at0]
 have h2:at0 u (j+i)=at0 (u.drop (j+i)) 0:=by simp[at0]
 rw[h1,h2,h.high]
theorem MS.step {u v c:Ω}{j g i bo:Nat}(h:MS u v c j g i bo)(hu:Dok u)(hv:Dok v)(hl:j+i<u.length) :
  MS u v (c.set (j+i) (msX (at0 u (j+i)) (at0 v i) g bo)) j g (i+1) (msB (at0 u (j+i)) (at0 v i) g bo):=by
 have hx:=cn hu (j+i)
 refine⟨by simp[h.len],h.ok.set _ (IA _ _ _ _),?_,?_,afH hx (cn hv i) h.le,?_⟩
 ·rw[take_set_of_le (by omega),h.low]
 ·rw[show j+(i+1)=j+i+1 by omega,drop_set_of_lt (by omega),← drop_drop,h.high,drop_drop]
 ·have h1:=adP (v:=at0 v i) (g:=g) (bo:=bo) hx
  have h2:=h.eq
  rw[tC _ _ _ _ (by rw[h.len];exact hl),gj,cu]
  generalize at0 u (j+i)=d at *
  generalize at0 v i=e at *
  generalize msX d e g bo=x at *
  generalize msB d e g bo=b at *
  have h3:(d+b*1000000000)*1000000000 ^ i=(x+bo+g*e)*1000000000 ^ i:=by rw[h1]
  rw[Nat.pow_succ,Nat.mul_add,← Nat.mul_assoc g]
  simp only[Nat.add_mul] at h3
  rw[show b*(1000000000 ^ i*1000000000)=b*1000000000*1000000000 ^ i by rw[Nat.mul_comm (1000000000 ^ i),Nat.mul_assoc]]
  omega
structure AB (u v c:Ω) (j i cy:Nat):Prop where
 len:c.length=u.length
 ok:Dok c
 low:c.take j=u.take j
 high:c.drop (j+i)=u.drop (j+i)
 le:cy≤1
 eq:val ((u.drop j).take i)+val (v.take i)=val ((c.drop j).take i)+cy*1000000000 ^ i
theorem AB.init {u v:Ω}(hu:Dok u)(j:Nat):AB u v u j 0 0:=⟨rfl,hu,rfl,rfl,by omega,by simp[Ab.val]⟩
theorem AB.at {u v c:Ω}{j i cy:Nat}(h:AB u v c j i cy):at0 c (j+i)=at0 u (j+i):=by
 have h1:at0 c (j+i)=at0 (c.drop (j+i)) 0:=by simp[at0]
 have h2:at0 u (j+i)=at0 (u.drop (j+i)) 0:=by simp[at0]
 rw[h1,h2,h.high]
theorem AB.step {u v c:Ω}{j i cy:Nat}(h:AB u v c j i cy)(hu:Dok u)(hv:Dok v)(hl:j+i<u.length) :
  AB u v (c.set (j+i) ((at0 u (j+i)+at0 v i+cy) % 1000000000)) j (i+1) ((at0 u (j+i)+at0 v i+cy) / 1000000000):=by
 have hx:=cn hu (j+i)
 have hy:=cn hv i
 have hc:=h.le
 refine⟨by simp[h.len],h.ok.set _ (Nat.mod_lt _ (by omega)),?_,?_,by omega,?_⟩
 ·rw[take_set_of_le (by omega),h.low]
 ·rw[show j+(i+1)=j+i+1 by omega,drop_set_of_lt (by omega),← drop_drop,h.high,drop_drop]
 ·have h2:=h.eq
  rw[tC _ _ _ _ (by rw[h.len];exact hl),gj,cu]
  generalize at0 u (j+i)=d at *
  generalize at0 v i=e at *
  have h1:d+e+cy=(d+e+cy) % 1000000000+(d+e+cy) / 1000000000*1000000000:=by omega
  generalize (d+e+cy) % 1000000000=x at *
  generalize (d+e+cy) / 1000000000=b at *
  have h3:(d+e+cy)*1000000000 ^ i=(x+b*1000000000)*1000000000 ^ i:=by rw[h1]
  rw[Nat.pow_succ]
  simp only[Nat.add_mul] at h3
  rw[show b*(1000000000 ^ i*1000000000)=b*1000000000*1000000000 ^ i by rw[Nat.mul_comm (1000000000 ^ i),Nat.mul_assoc]]
  omega
theorem Bt {c:Ω}(h:Dok c)(j n:Nat):val ((c.drop j).take n)<1000000000 ^ n:=by
 refine Nat.lt_of_lt_of_le (eM ((h.drop j).take n)) (Nat.pow_le_pow_right (by omega) ?_)
 rw[length_take];omega
theorem EF {un Ul R r g V bo Pn:Nat}(hR:R<Pn)(hr:r<Pn)(h1:Ul+bo*Pn=R+g*V)(h2:un*Pn+Ul=g*V+r):bo=un∧R=r:=by
 generalize g*V=p at *
 have h3:un*Pn+R=bo*Pn+r:=by omega
 rcases Nat.lt_trichotomy un bo with h | h | h
 ·have:=Nat.mul_le_mul_right Pn (show un+1≤bo from h)
  rw[Nat.add_mul,Nat.one_mul] at this
  omega
 ·subst h
  exact⟨rfl,by omega⟩
 ·have:=Nat.mul_le_mul_right Pn (show bo+1≤un from h)
  rw[Nat.add_mul,Nat.one_mul] at this
  omega
theorem Le {un Ul R r q V bo Pn:Nat}(hR:R<Pn)(hr:r<V)(hV:V<Pn)(h1:Ul+bo*Pn=R+(q+1)*V)(h2:un*Pn+Ul=q*V+r):bo=un+1∧R+V=Pn+r:=by
 rw[Nat.add_mul,Nat.one_mul] at h1
 generalize q*V=p at *
 have h3:un*Pn+(R+V)=bo*Pn+r:=by omega
 rcases Nat.lt_trichotomy (un+1) bo with h | h | h
 ·have:=Nat.mul_le_mul_right Pn (show un+2≤bo from h)
  rw[Nat.add_mul] at this
  omega
 ·subst h
  rw[Nat.add_mul,Nat.one_mul] at h3
  exact⟨rfl,by omega⟩
 ·have:=Nat.mul_le_mul_right Pn (show bo≤un by omega)
  omega
theorem agP {R V r R' cy Pn:Nat}(hR:R'<Pn)(hr:r<V)(hV:V<Pn)(h1:R+V=Pn+r)(h2:R+V=R'+cy*Pn)(hc:cy≤1):R'=r:=by
 have:cy=0∨cy=1:=by omega
 rcases this with h | h <;> subst h <;> omega
structure LI (A V n L:Nat) (u q:Ω) (c:Nat):Prop where
 ul:u.length=L
 uok:Dok u
 lt:val u<V*1000000000 ^ c
 ql:q.length+n=L
 qok:Dok q
 eq:A=V*(1000000000 ^ c*val (q.drop c))+val u
theorem oz (u:Ω)(j:Nat):val u=val (u.take j)+1000000000 ^ j*val (u.drop j):=by
 rcases Nat.lt_or_ge u.length j with hl | hl
 ·rw[take_of_length_le (Nat.le_of_lt hl),drop_eq_nil_of_le (Nat.le_of_lt hl)];simp[val]
 ·exact lf u _ hl
theorem LI.seg {A V n L:Nat}{u q:Ω}{j:Nat}(h:LI A V n L u q (j+1))(hV:V<1000000000 ^ n) :
  val u=val (u.take j)+1000000000 ^ j*val ((u.drop j).take (n+1))∧val (u.drop (j+n+1))=0∧val ((u.drop j).take (n+1))<V*1000000000:=by
 have h1:=oz u (j+n+1)
 have h2:val u<1000000000 ^ (j+n+1):=by
  refine Nat.lt_of_lt_of_le h.lt (?_:V*1000000000 ^ (j+1)≤1000000000 ^ (j+n+1))
  rw[show j+n+1=n+(j+1) from (Nat.add_right_comm j n 1).trans (Nat.add_comm _ _),Nat.pow_add 1000000000 n (j+1)]
  exact Nat.mul_le_mul_right _ (Nat.le_of_lt hV)
 have h3:val (u.drop (j+n+1))=0:=by
  rcases Nat.eq_zero_or_pos (val (u.drop (j+n+1))) with h | h
  ·exact h
  ·have h0:=Nat.mul_le_mul_left (1000000000 ^ (j+n+1)) h
   rw[Nat.mul_one] at h0
   exact absurd (Nat.le_trans h0 (Nat.le_trans (Nat.le_add_left _ _) (Nat.le_of_eq h1.symm))) (Nat.not_le_of_lt h2)
 have h4:=oz u j
 have h5:val (u.drop j)=val ((u.drop j).take (n+1)):=by
  have:=oz (u.drop j) (n+1)
  rw[drop_drop,← Nat.add_assoc,h3,Nat.mul_zero,Nat.add_zero] at this
  exact this
 rw[h5] at h4
 refine⟨h4,h3,?_⟩
 have h6:=h.lt
 rw[h4,Nat.pow_succ,Nat.mul_comm (1000000000 ^ j) 1000000000,← Nat.mul_assoc] at h6
 have h7:val ((u.drop j).take (n+1))*1000000000 ^ j<V*1000000000*1000000000 ^ j:=by
  rw[Nat.mul_comm (val _)]
  exact Nat.lt_of_le_of_lt (Nat.le_add_left _ _) h6
 exact Nat.lt_of_mul_lt_mul_right h7
theorem LI.next {A V n L:Nat}{u q u':Ω}{j:Nat}(h:LI A V n L u q (j+1))(hV:V<1000000000 ^ n)(hV0:0<V)(hl:j+n<L)(hl':u'.length=L)(hok:Dok u')(hlow:u'.take j=u.take j)(hhigh:u'.drop (j+n+1)=u.drop (j+n+1))
  (htop:at0 u' (j+n)=0) (hseg:val ((u'.drop j).take n)=val ((u.drop j).take (n+1)) % V) (hd:val ((u.drop j).take (n+1)) / V<1000000000) :
  LI A V n L u' (q.set j (val ((u.drop j).take (n+1)) / V)) j:=by
 obtain⟨h1,h2,h3⟩:=h.seg hV
 have e1:val u'=val (u.take j)+1000000000 ^ j*(val ((u.drop j).take (n+1)) % V):=by
  rw[lf u' j (by omega),hlow]
  congr 2
  have h4:n≤(u'.drop j).length:=by rw[length_drop];omega
  rw[lf (u'.drop j) n h4,hseg,drop_drop]
  have h5:val (u'.drop (j+n))=0:=by
   rw[il u' (j+n) (by omega),htop,hhigh,h2]
  rw[h5];simp
 have hdm:=Nat.div_add_mod (val ((u.drop j).take (n+1))) V
 have hm:=Nat.mod_lt (val ((u.drop j).take (n+1))) hV0
 have hq:=h.ql
 generalize val ((u.drop j).take (n+1)) / V=d at *
 generalize val ((u.drop j).take (n+1)) % V=r at *
 generalize val ((u.drop j).take (n+1))=U at *
 have hlo:val (u.take j)<1000000000 ^ j:=by
  refine Nat.lt_of_lt_of_le (eM (h.uok.take j)) (Nat.pow_le_pow_right (by omega) ?_)
  rw[length_take];omega
 refine⟨hl',hok,?_,by simp;omega,h.qok.set _ hd,?_⟩
 ·rw[e1]
  have h5:1000000000 ^ j*(r+1)≤1000000000 ^ j*V:=Nat.mul_le_mul_left _ hm
  rw[Nat.mul_add,Nat.mul_one] at h5
  rw[Nat.mul_comm V]
  clear e1 h1 h2 h3 h
  generalize 1000000000 ^ j*V=a1 at *
  generalize 1000000000 ^ j*r=a2 at *
  generalize 1000000000 ^ j=a3 at *
  omega
 ·rw[h.eq,e1,h1,kX (by omega),val]
  generalize val (u.take j)=lo at *
  generalize val (q.drop (j+1))=X at *
  rw[Nat.pow_succ]
  clear h h1 h2 h3 hlow hhigh htop hlo e1 hV
  generalize 1000000000 ^ j=Pj at *
  subst hdm
  have a1:Pj*(V*d+r)=V*(Pj*d)+Pj*r:=by
   rw[Nat.mul_add,← Nat.mul_assoc,Nat.mul_comm Pj V,Nat.mul_assoc]
  have a2:V*(Pj*(d+1000000000*X))=V*(Pj*d)+V*(Pj*1000000000*X):=by
   rw[Nat.mul_add Pj,Nat.mul_add V,Nat.mul_assoc Pj]
  rw[a1,a2]
  omega
theorem LI.init {a b k n la:Nat}{u:Ω}(hu:val u=k*a)(hok:Dok u)(hl:u.length=la+1)(ha:a<1000000000 ^ la)(hb:1000000000 ^ n≤b*1000000000)(hk:0<k)(hn:n≤la+1) :
  LI (k*a) (k*b) n (la+1) u (List.replicate (la+1 - n) 0) (la+1 - n):=by
 refine⟨hl,hok,?_,by simp;omega,Dok.J7 _,?_⟩
 ·rw[hu,Nat.mul_assoc]
  refine Nat.mul_lt_mul_of_pos_left ?_ hk
  refine Nat.lt_of_mul_lt_mul_right (a:=1000000000) ?_
  rw[Nat.mul_right_comm]
  refine Nat.lt_of_lt_of_le ?_ (Nat.mul_le_mul_right _ hb)
  rw[← Nat.pow_add,show n+(la+1 - n)=la+1 by omega,Nat.pow_succ]
  exact Nat.mul_lt_mul_of_pos_right ha (by omega)
 ·rw[drop_eq_nil_of_le (by simp),hu];simp[val]
theorem LI.done {a b k n L:Nat}{u q:Ω}(h:LI (k*a) (k*b) n L u q 0)(hk:0<k)(hb:0<b):val q=a / b∧val u=k*(a % b):=by
 have h1:=h.eq
 have h2:=h.lt
 simp only[Nat.pow_zero,Nat.mul_one,Nat.one_mul,drop_zero] at h1 h2
 have hkb:0<k*b:=Nat.mul_pos hk hb
 constructor
 ·rw[← Nat.mul_div_mul_left a b hk,h1,Nat.mul_add_div hkb,Nat.div_eq_of_lt h2,Nat.add_zero]
 ·rw[← Nat.mul_mod_mul_left,h1,Nat.mul_add_mod,Nat.mod_eq_of_lt h2]
theorem M8 {t k:Nat}(ht:0<t)(ht2:t<1000000000)(hk:k=1000000000 / (t+1)):0<k∧k<1000000000∧k*(t+1)≤1000000000∧1000000000≤2*(k*t):=by
 have h1:=Nat.div_mul_le_self 1000000000 (t+1)
 have h2:=Nat.div_add_mod 1000000000 (t+1)
 have h3:=Nat.mod_lt 1000000000 (show 0<t+1 by omega)
 have h4:0<k:=by rw[hk];exact Nat.div_pos (by omega) (by omega)
 have h5:k<1000000000:=by rw[hk];exact Nat.div_lt_self (by omega) (by omega)
 rw[← hk] at h1 h2
 refine⟨h4,h5,h1,?_⟩
 rcases Nat.lt_or_ge t 500000000 with h | h
 ·
  have e1:k*(t+1)=k*t+k:=by rw[Nat.mul_add,Nat.mul_one]
  have e2:(t+1)*k=k*t+k:=by rw[Nat.mul_comm,e1]
  rw[e2] at h2
  rcases Nat.lt_or_ge t 2 with ht1 | ht1
  ·have:t=1:=by omega
   subst this
   omega
  ·have h6:k≤333333333:=by
    have:k*3≤k*(t+1):=Nat.mul_le_mul_left _ (by omega)
    omega
   rcases Nat.lt_or_ge t 160000000 with h7 | h7
   ·omega
   ·have h8:k*160000001≤k*(t+1):=Nat.mul_le_mul_left _ (by omega)
    have h9:k≤6:=by omega
    have h10:1*t≤k*t:=Nat.mul_le_mul_right _ h4
    have:k=1∨k=2∨k=3∨k=4∨k=5∨k=6:=by omega
    rcases this with e | e | e | e | e | e <;> subst e <;> omega
 ·have:=Nat.mul_le_mul_right t (show 1≤k from h4)
  omega
theorem da (l:Ω)(i:Nat)(h:i<l.length):(bz (l.map dg) i).head?=some (.sc (.int .u32 (at0 l i:Int))):=by
 rw[eJ l i h,de h];rfl
theorem fi (z:Int)(h : -9223372036854775808≤z)(h2:z≤9223372036854775807):bB .i64 z=z:=by
 unfold bB
 have h1:decide (loK .i64≤z)=true:=decide_eq_true (by simp only[loK];omega)
 have h2:decide (z≤hiK .i64)=true:=decide_eq_true (by simp only[hiK];omega)
 rw[h1,h2];rfl
theorem CR (u:Ω)(j m:Nat):val ((u.drop j).take (m+3))=((at0 u (j+m+2)*1000000000+at0 u (j+m+1))*1000000000+at0 u (j+m))*1000000000 ^ m+val ((u.drop j).take m):=by
 rw[gj u j (m+2),gj u j (m+1),gj u j m]
 rw[show j+(m+2)=j+m+2 by omega,show j+(m+1)=j+m+1 by omega]
 simp only[Nat.pow_succ]
 generalize 1000000000 ^ m=P
 grind
theorem qk (v:Ω)(m:Nat)(h:v.length=m+2):val v=(at0 v (m+1)*1000000000+at0 v m)*1000000000 ^ m+val (v.take m):=by
 have e:val v=val (v.take (m+2)):=by rw[cB _ _ (by omega)]
 rw[e,cu v (m+1),cu v m,Nat.pow_succ]
 generalize 1000000000 ^ m=P
 grind
theorem vd {c:Ω}(h:Dok c)(n:Nat):val (c.take n)<1000000000 ^ n:=by
 have:=Bt h 0 n
 simpa using this
theorem VB {top u2 v1 v2 U ul vl V P:Nat}(h1:U=(top*1000000000+u2)*P+ul)(h2:V=(v1*1000000000+v2)*P+vl)(h3:vl<P)(h4:v2<1000000000)(hlt:U<V*1000000000):top≤v1*1000000000+999999999:=by
 have h5:V<(v1+1)*1000000000*P:=by
  have:(v1*1000000000+v2+1)*P≤(v1+1)*1000000000*P:=Nat.mul_le_mul_right _ (by omega)
  rw[Nat.add_mul _ 1,Nat.one_mul] at this
  omega
 have h6:top*1000000000*P≤U:=by
  rw[h1,Nat.add_mul]
  omega
 have h7:top*(1000000000*P)<(v1+1)*1000000000*(1000000000*P):=by
  rw[← Nat.mul_assoc]
  refine Nat.lt_of_le_of_lt h6 (Nat.lt_trans hlt ?_)
  have:V*1000000000<(v1+1)*1000000000*P*1000000000:=Nat.mul_lt_mul_of_pos_right h5 (by omega)
  rw[Nat.mul_assoc _ P,Nat.mul_comm P] at this
  exact this
 have h8:=Nat.lt_of_mul_lt_mul_right h7
 omega
theorem OU {u v:Ω}{j m:Nat}(hv:Dok v)(hvl:v.length=m+2)(hlt:val ((u.drop j).take (m+3))<val v*1000000000) :
  at0 u (j+m+2)*1000000000+at0 u (j+m+1)≤at0 v (m+1)*1000000000+999999999 :=
 VB (CR u j m) (qk v m hvl) (vd hv m) (cn hv m) hlt
theorem OW {u v:Ω}{j m g:Nat}(hu:Dok u)(hv:Dok v)(hvl:v.length=m+2)(hv1:0<at0 v (m+1))(hlt:val ((u.drop j).take (m+3))<val v*1000000000)
  (hg:GF (at0 u (j+m+2)*1000000000+at0 u (j+m+1)) (at0 v (m+1)) (at0 v m) (at0 u (j+m)) g) :
  g=val ((u.drop j).take (m+3)) / val v∨g=val ((u.drop j).take (m+3)) / val v+1:=by
 refine BP (CR u j m) (Bt hu j m) (qk v m hvl) (vd hv m) ?_ hlt hg.1 hg.2.1 hg.2.2
 rw[qk v m hvl]
 have:1000000000*1000000000 ^ m≤(at0 v (m+1)*1000000000+at0 v m)*1000000000 ^ m:=Nat.mul_le_mul_right _ (by omega)
 omega
theorem GI.le {top v1 v2 u2:Nat}(h5:500000000≤v1)(ht:top≤v1*1000000000+999999999):top / v1≤1000000001:=by
 have h1:top / v1*v1≤top:=Nat.div_mul_le_self _ _
 rcases Nat.lt_or_ge 1000000001 (top / v1) with h | h
 ·have:=Nat.mul_le_mul_right v1 (show 1000000002≤top / v1 from h)
  omega
 ·exact h
theorem dL.aks {b:Nat}{hp:Θ}{l:Ω}{p:PV}(h:dL b hp l p)(a:Nat)(hl:l.length<100000000) :
  ∃ id hp' fp,cU hp 1 p 1 [dg a]=some (.own id 1 0 (l.length+1) false,hp',fp)∧aX hp' id=some ⟨.live,(l++[a]).map dg⟩:=by
 obtain⟨hb,h⟩:=h
 rcases h with ⟨rfl,rfl⟩| ⟨id,m,hid,hid2,rfl,h⟩
 ·refine⟨hp.length,bd hp [dg a],⟨[],[hp.length],true,false⟩,by simp[cU,cW],?_⟩
  rw[bP,if_pos rfl];rfl
 ·have ht:bF (bz ((l++m).map dg) 0) (l.length*1)=some (l.map dg):=by
   rw[cD,dk (by simp)]
   simp
  refine⟨hp.length,bd (cF hp id ⟨.dead,[]⟩) (l.map dg++[dg a]),⟨[],[id,hp.length],true,false⟩,?_,?_⟩
  ·simp only[cU,h]
   rw[ht]
   simp[cW]
   omega
  ·rw[bP,bQ,if_pos rfl];simp
theorem KA {b:Ω}{n1:Nat}(ht:Top b)(hn:b.length=n1+1):0<at0 b n1:=by
 obtain⟨m,a,e,hm⟩:=Bp hn
 have h1:=ht m a e
 subst e
 have:at0 (m++[a]) n1=a:=by
  unfold at0
  rw[getElem?_append_right (by omega),hm,Nat.sub_self]
  rfl
 rw[this]
 omega
theorem CP (b:Ω)(n1:Nat)(hn:b.length=n1+1):val b=at0 b n1*1000000000 ^ n1+val (b.take n1):=by
 have e:val b=val (b.take (n1+1)):=by rw[cB _ _ (by omega)]
 rw[e,cu]
 omega
theorem M9 {b:Ω}{n1 k:Nat}(hb:Dok b)(ht:Top b)(hn:b.length=n1+1)(hk:k=1000000000 / (at0 b n1+1)) :
  0<k∧k<1000000000∧1000000000 ^ (n1+1)≤val b*1000000000∧val b*k<1000000000 ^ (n1+1)∧(aJ (val b*k)).length=n1+1∧500000000≤at0 (aJ (val b*k)) n1:=by
 obtain⟨s1,s2,s3,s4⟩:=M8 (KA ht hn) (cn hb n1) hk
 have hlow:=vd hb n1
 have hv:=CP b n1 hn
 have h0:=KA ht hn
 have hd:=bV (val b*k)
 have hvd:=bX (val b*k)
 have hpow:(1000000000:Nat) ^ (n1+1)=1000000000 ^ n1*1000000000:=Nat.pow_succ ..
 clear hk
 generalize at0 b n1=t at *
 generalize val (b.take n1)=low at *
 generalize val b=V at *
 have hP:0<1000000000 ^ n1:=Nat.pow_pos (by omega)
 have e1:1000000000 ^ n1≤t*1000000000 ^ n1:=Nat.le_mul_of_pos_left _ h0
 have e2:V*k<1000000000 ^ (n1+1):=by
  have h1:V<(t+1)*1000000000 ^ n1:=by rw[Nat.add_mul,Nat.one_mul];omega
  have h2:V*k<(t+1)*1000000000 ^ n1*k:=Nat.mul_lt_mul_of_pos_right h1 s1
  have h3:(t+1)*1000000000 ^ n1*k=k*(t+1)*1000000000 ^ n1:=by rw[Nat.mul_comm _ k,Nat.mul_assoc]
  have h4:k*(t+1)*1000000000 ^ n1≤1000000000*1000000000 ^ n1:=Nat.mul_le_mul_right _ s3
  rw[hpow,Nat.mul_comm _ 1000000000]
  omega
 have e3:k*t*1000000000 ^ n1≤V*k:=by
  rw[hv,Nat.add_mul,Nat.mul_comm k t,Nat.mul_right_comm]
  omega
 have e4:500000000*1000000000 ^ n1≤V*k:=Nat.le_trans (Nat.mul_le_mul_right _ (by omega)) e3
 have e5:(aJ (V*k)).length=n1+1:=by
  refine Nat.le_antisymm (di e2) ?_
  rcases Nat.lt_or_ge n1 (aJ (V*k)).length with h | h
  ·exact h
  ·exfalso
   have h1:=fA (V*k)
   have h2:(1000000000:Nat) ^ (aJ (V*k)).length≤1000000000 ^ n1:=Nat.pow_le_pow_right (by omega) h
   omega
 refine⟨s1,s2,?_,e2,e5,?_⟩
 ·rw[hpow]
  exact Nat.mul_le_mul_right _ (by omega)
 ·have h1:=CP _ n1 e5
  rw[hvd] at h1
  have h2:=vd hd n1
  rcases Nat.lt_or_ge (at0 (aJ (V*k)) n1) 500000000 with h | h
  ·exfalso
   have h3:(at0 (aJ (V*k)) n1+1)*1000000000 ^ n1≤500000000*1000000000 ^ n1:=Nat.mul_le_mul_right _ h
   rw[Nat.add_mul,Nat.one_mul] at h3
   omega
  ·exact h
theorem vT {u:Ω}{n:Nat}(h:val u<1000000000 ^ n):val (u.take n)=val u:=by
 have h1:=oz u n
 rcases Nat.eq_zero_or_pos (val (u.drop n)) with h2 | h2
 ·rw[h2] at h1;omega
 ·have:1000000000 ^ n≤1000000000 ^ n*val (u.drop n):=Nat.le_mul_of_pos_right _ h2
  omega
def dv (b:Nat):Nat:=(b+208) % 256
def stp (a b:Nat):Nat:=10*a+dv b
def dec (a:Nat)(l:Ω):Nat:=l.foldl stp a
theorem rK (a b:Nat)(l:Ω):dec a (b::l)=dec (stp a b) l:=rfl
def lL (b:Nat):Bool:=Nat.ble 48 b && Nat.ble b 57
def eH:Ω→Bool
 | []=>true
 | b::l=>lL b && eH l
theorem dE {b:Nat} : lL b=true ↔ 48≤b∧b≤57:=by simp[lL]
theorem mI (a:Nat)(l m:Ω):dec a (l++m)=dec (dec a l) m:=by
 unfold dec;rw[foldl_append]
theorem LP (a:Nat)(l:Ω):dec a l=a*10 ^ l.length+dec 0 l:=by
 induction l generalizing a with
 | nil=>simp[dec]
 | cons b l ih =>
  have h1:=ih (stp a b)
  have h2:=ih (stp 0 b)
  rw[rK,rK,h1,h2,length_cons,Nat.pow_succ]
  unfold stp
  generalize dv b=c
  grind
theorem fV (l m:Ω):eH (l++m)=(eH l && eH m):=by
 induction l with
 | nil=>rfl
 | cons b l ih=>simp[eH,ih,Bool.and_assoc]
theorem dec_lt (l:Ω)(h:eH l=true):dec 0 l<10 ^ l.length:=by
 induction l using jq with
 | h0=>simp[dec]
 | h1 l b ih =>
  rw[fV,Bool.and_eq_true] at h
  have h1:=ih h.1
  have h2:lL b=true:=by simpa [eH] using h.2
  rw[dE] at h2
  rw[mI,length_append,length_singleton,Nat.pow_succ]
  rw[rK,stp]
  show 10*dec 0 l+dv b<10 ^ l.length*10
  unfold dv
  omega
def u8v (n:Nat):PV:=.sc (.int .u8 n)
def yb (l:Ω):PV:=.imm l.length false (l.map u8v)
theorem adV (l:Ω)(i:Nat)(h:i<l.length):(bz (l.map u8v) i).head?=some (.sc (.int .u8 (l[i]:Int))):=by
 rw[cD,← map_drop,drop_eq_getElem_cons h];rfl
def bys (s:ByteArray):Ω:=(bO s).map UInt8.toNat
theorem J9 (k:IntKind)(a s:Nat)(h:s=10*a)(hs:s≤hiN k):bB k (10*(a:Int))=(s:Int):=by
 have e:(10*(a:Int))=(s:Int):=by omega
 rw[e];exact dp k _ hs
theorem Bd (k:IntKind)(a s:Nat)(h:a=s+48)(hs:s≤hiN k):bB k ((a:Int) - 48)=(s:Int):=by
 have e:((a:Int) - 48)=(s:Int):=by omega
 rw[e];exact dp k _ hs
theorem QC (z:Int)(h : -9223372036854775808≤z - 9)(h2:z - 9≤9223372036854775807):bB .i64 (z - 9)=z - 9:=by
 unfold bB
 have h1:decide (loK .i64≤z - 9)=true:=decide_eq_true (by simp only[loK];omega)
 have h2:decide (z - 9≤hiK .i64)=true:=decide_eq_true (by simp only[hiK];omega)
 rw[h1,h2];rfl
theorem fo {C:Cfg}{run:av}{k i:Nat}{b:Code}{st st':St}(h:ae C run k b st=some (.ret,st')):ae C run k (.block i b) st=some (.ret,st'):=by
 simp only[ae,h]
theorem jO (s:ByteArray):(bys s).length=(bO s).length:=by simp[bys]
theorem MC (s:ByteArray)(l h:Nat)(h1:l≤h)(h2:h≤(bO s).length) :
  dT s (some (.sc (.int .i64 (l:Int)))) (some (.sc (.int .i64 (h:Int)))) none=some (.sc (.string (mkStr (((bO s).take h).drop l)))):=by
 simp[dT,bnd,fG,bm,h1,h2]
theorem WL (l:List UInt8):(.imm (bO (mkStr l)).length false ((bO (mkStr l)).map fun b=>PV.sc (.int .u8 (b.toNat:Int))):PV)=yb (l.map UInt8.toNat):=by
 rw[fh,yb,length_map,map_map];rfl
theorem Bz (hp:Θ)(id i:Nat)(h:i≠id):aX (roB hp [id]) i=aX hp i:=by
 unfold roB
 split
 ·rename_i cs e
  simp only[roB]
  rw[cN e,if_neg h]
 ·rfl
theorem dL.arg {b:Nat}{hp:Θ}{l:Ω}{p:PV}(h:dL b hp l p)(n:Bool) :
  ∃ q ids,bu (Ab.snap hp bn) [.sc (.bool n),p]=some ([.sc (.bool n),q],ids)∧aK [.sc (.bool n),q]=[.sc (.bool n),aL l]∧∀ i,i<b→aX (roB hp ids) i=aX hp i:=by
 obtain⟨hb,h⟩:=h
 rcases h with ⟨rfl,rfl⟩| ⟨id,m,hid,_,rfl,h⟩
 ·exact⟨.sc (.slice none 0 0),[],rfl,rfl,fun _ _=>rfl⟩
 ·have ht:bF (bz ((l++m).map dg) 0) (l.length*1)=some (l.map dg):=by
   rw[cD,dk (by simp)]
   simp
  have hs:=jY hp 10 l
  have h1:Ab.snap hp 12 (.own id 1 0 l.length false)=some (.imm l.length false (l.map dg),[id]):=by
   rw[Ab.snap]
   simp only[h]
   rw[if_neg (by simp),ht]
   simp only[hs]
  refine⟨.imm l.length false (l.map dg),[id],?_,?_,fun i hi=>Bz hp id i (by omega)⟩
  ·simp only[bn,bu,h1]
   rfl
  ·simp only[aK,canon,jc];rfl
theorem yd (l:Ω)(lo e:Nat)(h:lo≤e)(he:e≤l.length):l.drop lo=(l.take e).drop lo++l.drop e:=by
 conv=>lhs;rw[← take_append_drop e l]
 rw[drop_append_of_le_length (by rw[length_take];omega)]
theorem abU {n m:Nat}(h:n.log2<29*m):(aJ n).length≤m:=by
 by_cases h0:n=0
 ·subst h0;simp[fq]
 ·have h1:n<2 ^ (n.log2+1):=Nat.lt_log2_self
  have h2:2 ^ (n.log2+1)≤2 ^ (29*m):=Nat.pow_le_pow_right (by omega) h
  have h3:(2:Nat) ^ (29*m)≤1000000000 ^ m:=by
   rw[Nat.pow_mul]
   exact Nat.pow_le_pow_left (by decide) _
  exact di (Nat.lt_of_lt_of_le h1 (Nat.le_trans h2 h3))
theorem abT {n:Nat}(h:n.log2<11000000):(aJ n).length<400000 :=
 Nat.lt_of_le_of_lt (abU (m:=399999) (Nat.lt_trans h (by decide))) (by decide)
end Go.Ab
namespace Go.Ab
open List
namespace T
open List
def val:Ω→Nat
 | []=>0
 | a::l=>a+10*val l
def jy:Nat→Nat→Ω
 | 0,_=>[]
 | k+1,n=>if n=0 then [] else n % 10::jy k (n / 10)
def aJ (n:Nat):Ω:=jy (n.log2+1) n
def Dok (l:Ω):Prop:=∀ x ∈ l,x<10
def ff (l:Ω):Ω:=(l.reverse.dropWhile (· == 0)).reverse
theorem Dok.nil:Dok []:=fun _ h=>by cases h
theorem Dok.cons {a:Nat}{l:Ω}(h:a<10)(h':Dok l):Dok (a::l):=fun x hx=>by
 rcases mem_cons.1 hx with rfl | hx
 ·exact h
 ·exact h' x hx
theorem Dok.head {a:Nat}{l:Ω}(h:Dok (a::l)):a<10:=h a (by simp)
theorem Dok.tail {a:Nat}{l:Ω}(h:Dok (a::l)):Dok l:=fun x hx=>h x (by simp[hx])
theorem Dok.append {l m:Ω}(h:Dok l)(h':Dok m):Dok (l++m):=fun x hx=>by
 rcases mem_append.1 hx with hx | hx
 ·exact h x hx
 ·exact h' x hx
theorem Dok.left {l m:Ω}(h:Dok (l++m)):Dok l:=fun x hx=>h x (by simp[hx])
theorem Dok.right {l m:Ω}(h:Dok (l++m)):Dok m:=fun x hx=>h x (by simp[hx])
theorem Dok.get {l:Ω}(h:Dok l){i:Nat}(hi:i<l.length):l[i]<10:=h _ (getElem_mem hi)
theorem Dok.set {l:Ω}(h:Dok l)(i:Nat){y:Nat}(hy:y<10):Dok (l.set i y):=fun x hx=>by
 rcases mem_or_eq_of_mem_set hx with hx | rfl
 ·exact h x hx
 ·exact hy
theorem Dok.J7 (n:Nat):Dok (List.replicate n 0):=fun x hx=>by
 rw[(mem_replicate.1 hx).2];omega
theorem Dok.take {l:Ω}(h:Dok l)(n:Nat):Dok (l.take n):=fun x hx=>h x (mem_of_mem_take hx)
theorem Dok.drop {l:Ω}(h:Dok l)(n:Nat):Dok (l.drop n):=fun x hx=>h x (mem_of_mem_drop hx)
theorem gZ (l m:Ω):val (l++m)=val l+10 ^ l.length*val m:=by
 induction l with
 | nil=>simp[val]
 | cons a l ih =>
  simp only[cons_append,val,ih,length_cons,Nat.pow_succ]
  grind
theorem dI (l:Ω)(a:Nat):val (l++[a])=val l+10 ^ l.length*a:=by
 rw[gZ];simp[val]
theorem oy (n:Nat):val (List.replicate n 0)=0:=by
 induction n with
 | zero=>rfl
 | succ n ih=>simp[replicate_succ,val,ih]
theorem qm (l:Ω)(i y:Nat)(hi:i<l.length):val (l.set i y)+l[i]*10 ^ i=val l+y*10 ^ i:=by
 induction l generalizing i with
 | nil=>simp at hi
 | cons a l ih =>
  cases i with
  | zero=>simp[val];omega
  | succ i =>
   have:=ih i (by simpa using hi)
   simp only[set_cons_succ,val,getElem_cons_succ,Nat.pow_succ]
   grind
theorem gK (l:Ω)(i:Nat)(hi:i<l.length):val (l.take (i+1))=val (l.take i)+l[i]*10 ^ i:=by
 rw[take_succ_eq_append_getElem hi,dI,length_take,Nat.min_eq_left (by omega),Nat.mul_comm]
theorem eM {l:Ω}(h:Dok l):val l<10 ^ l.length:=by
 induction l with
 | nil=>simp[val]
 | cons a l ih =>
  have h1:=ih h.tail
  have h2:=h.head
  simp only[val,length_cons,Nat.pow_succ]
  omega
theorem lf (l:Ω)(i:Nat)(hi:i≤l.length):val l=val (l.take i)+10 ^ i*val (l.drop i):=by
 have h:=gZ (l.take i) (l.drop i)
 rw[take_append_drop,length_take,Nat.min_eq_left hi] at h
 exact h
theorem nP (n:Nat)(h:n≠0):(n / 10).log2+1≤n.log2∨n / 10=0:=by
 by_cases h0:n / 10=0
 ·exact .inr h0
 ·left
  have h1:2 ^ (n / 10).log2≤n / 10:=Nat.log2_self_le h0
  have h2:2 ^ ((n / 10).log2+1)≤n:=by
   rw[Nat.pow_succ];omega
  exact (Nat.le_log2 h).2 h2
theorem nZ:∀ (k j n:Nat),n.log2<k→n.log2<j→jy k n=jy j n
 | 0,j,n,h,_=>by omega
 | k+1,0,n,_,h=>by omega
 | k+1,j+1,n,h,h'=>by
  unfold jy
  by_cases hn:n=0
  ·rw[if_pos hn,if_pos hn]
  ·rw[if_neg hn,if_neg hn]
   congr 1
   rcases nP n hn with h1 | h1
   ·exact nZ k j _ (by omega) (by omega)
   ·rw[h1]
    cases k <;> cases j <;> simp[jy]
theorem fq:aJ 0=[]:=rfl
theorem dW {n:Nat}(h:n≠0):aJ n=n % 10::aJ (n / 10):=by
 unfold aJ
 rw[jy,if_neg h]
 congr 1
 rcases nP n h with h1 | h1
 ·exact nZ _ _ _ (by omega) (by omega)
 ·rw[h1]
  cases n.log2 <;> simp[jy]
theorem tk {a:Nat}{l:Ω}(ha:a<10)(h:a+10*val l≠0):aJ (a+10*val l)=a::aJ (val l):=by
 rw[dW h,Nat.add_mul_mod_self_left,Nat.mod_eq_of_lt ha,Nat.add_mul_div_left _ _ (by omega),Nat.div_eq_of_lt ha,Nat.zero_add]
theorem bX (n:Nat):val (aJ n)=n:=by
 induction n using Nat.strongRecOn with
 | _ n ih =>
  by_cases h:n=0
  ·subst h;rfl
  ·rw[dW h,val,ih _ (by omega)]
   omega
theorem bV (n:Nat):Dok (aJ n):=by
 induction n using Nat.strongRecOn with
 | _ n ih =>
  by_cases h:n=0
  ·subst h;exact Dok.nil
  ·rw[dW h]
   exact (ih _ (by omega)).cons (by omega)
theorem ez (l:Ω)(a:Nat):ff (l++[a])=if a=0 then ff l else l++[a]:=by
 unfold ff
 rw[reverse_append]
 by_cases h:a=0 <;> simp[h]
theorem jq {P:Ω→Prop}(h0:P [])(h1:∀ l a,P l→P (l++[a])):∀ l,P l:=by
 intro l
 have:∀ m:Ω,P m.reverse:=by
  intro m
  induction m with
  | nil=>exact h0
  | cons a m ih=>rw[reverse_cons];exact h1 _ a ih
 have:=this l.reverse
 rwa [reverse_reverse] at this
theorem sk (l:Ω):val (ff l)=val l:=by
 induction l using jq with
 | h0=>rfl
 | h1 l a ih =>
  rw[ez]
  by_cases h:a=0
  ·rw[if_pos h,ih,h,dI,Nat.mul_zero,Nat.add_zero]
  ·rw[if_neg h]
theorem vV {l:Ω}(h:Dok l):Dok (ff l):=by
 induction l using jq with
 | h0=>exact Dok.nil
 | h1 l a ih =>
  rw[ez]
  by_cases h':a=0
  ·rw[if_pos h'];exact ih h.left
  ·rw[if_neg h'];exact h
def Top (l:Ω):Prop:=∀ m a,l=m++[a]→a≠0
theorem lj (l:Ω):Top (ff l):=by
 induction l using jq with
 | h0=>intro m a h;simp[ff] at h
 | h1 l a ih =>
  rw[ez]
  by_cases h:a=0
  ·rw[if_pos h];exact ih
  ·rw[if_neg h]
   intro m b e
   have:=append_inj' e rfl
   simp at this
   rw[← this.2];exact h
theorem Top.tail {a:Nat}{l:Ω}(h:Top (a::l)):Top l:=fun m b e=>h (a::m) b (by rw[e];rfl)
theorem Top.qn {l:Ω}(h:Top l)(hl:l≠[]):val l≠0:=by
 obtain⟨m,a,rfl⟩:∃ m a,l=m++[a]:=⟨l.dropLast,l.getLast hl,(dropLast_concat_getLast hl).symm⟩
 have ha:=h m a rfl
 rw[dI]
 have:0<10 ^ m.length*a:=Nat.mul_pos (Nat.pow_pos (by omega)) (by omega)
 omega
theorem ke {l:Ω}(h:Dok l)(ht:Top l):aJ (val l)=l:=by
 induction l with
 | nil=>rfl
 | cons a l ih =>
  rw[val,tk h.head,ih h.tail ht.tail]
  exact ht.qn (by simp)
theorem eA {l:Ω}(h:Dok l):ff l=aJ (val l):=by
 rw[← sk l,ke (vV h) (lj l)]
theorem jx (n:Nat):Top (aJ n):=by
 have h:=eA (bV n)
 rw[bX] at h
 rw[← h]
 exact lj _
theorem cT {n:Nat} : 0<(aJ n).length ↔ n≠0:=by
 by_cases h:n=0
 ·subst h;simp[fq]
 ·rw[dW h];simp[h]
theorem yg {n:Nat}(h:aJ n=[]):n=0:=by
 rw[← bX n,h];rfl
theorem di {n k:Nat}(h:n<10 ^ k):(aJ n).length≤k:=by
 by_cases h0:aJ n=[]
 ·rw[h0];simp
 ·obtain⟨m,a,e⟩:∃ m a,aJ n=m++[a]:=⟨(aJ n).dropLast,(aJ n).getLast h0,(dropLast_concat_getLast h0).symm⟩
  have ha:=jx n m a e
  have hv:=bX n
  rw[e,dI] at hv
  rw[e,length_append,length_singleton]
  have h1:10 ^ m.length≤n:=by
   have:10 ^ m.length*1≤10 ^ m.length*a:=Nat.mul_le_mul_left _ (by omega)
   omega
  have h2:10 ^ m.length<10 ^ k:=by omega
  exact Nat.lt_of_not_le fun h3=>absurd (Nat.pow_le_pow_right (n:=10) (by omega) h3) (by omega)
theorem fA (n:Nat):n<10 ^ (aJ n).length:=by
 have:=eM (bV n)
 rwa [bX] at this
end T
end Go.Ab
