/- Contracts of numbers kept as digits in text, part 34 of the proof; each lemma states its own conditions. -/
import Derived.Test.YtjdmodeenbdfpaaGreatR33
import Derived.Test.YtjdmodeenbdfpaaGreatR27
import Derived.Test.YtjdmodeenbdfpaaGreatR32
import Derived.Test.YtjdmodeenbdfpaaGreatR26
set_option linter.unusedSimpArgs false
set_option linter.unusedVariables false
namespace Go.Proofs.YtjdmodeenbdfpaaGreat
open Go Go.Ab
theorem Ze (run:ar)(x y:Int)(hx:Zm x)(hy:Zm y):aA LT9 run 69 [zs x,zs y] (Ab.bJ (fF x y)):=fun dr hp =>
 bu BC XD run dr hp _ [Ab.bJ (fF x y)] rfl rfl (by simp only[lT,cT x hx,cT y hy])
theorem Zd (run:ar)(x y:Int)(hx:Zm x)(hy:Zm y):aA LT9 run 112 [zs x,zs y] (zs ((Nat.gcd x.natAbs y.natAbs:Nat):Int)):=fun dr hp =>
 bu BA XC run dr hp _ [zs ((Nat.gcd x.natAbs y.natAbs:Nat):Int)] rfl rfl (by simp only[sP,cT x hx,cT y hy])
theorem I3 (run:ar)(x y:Int)(hx:Zm x)(hy:Zm y)(h0:0<y):aA LT9 run 121 [zs x,zs y] (.tup [zs (x / y),zs (x % y)]):=fun dr hp =>
 bu Bw XA run dr hp _ [zs (x / y),zs (x % y)] rfl rfl (by simp only[sL,cT x hx,cT y hy,decide_eq_true h0,cond_true])
theorem yd (run:ar)(k:Nat)(fr:List PV)(n d:Int)(hn:Zm n)(hd:Zm d)(hd0:0<d)(h37:fr.length=37)(h0:nth fr 0=zs n)(h1:nth fr 1=zs d) :
  ∃ st,af (CC LT9) run k (ah 2 kb) ⟨fr,[],[]⟩=some (.ret,st)∧aZ TT st.fr st.hp Tryz.f67.results.toList=some [qs (n / (Nat.gcd n.natAbs d.natAbs:Nat)) (d / (Nat.gcd n.natAbs d.natAbs:Nat))]:=by
 have hgp:0<Nat.gcd n.natAbs d.natAbs:=Nat.gcd_pos_of_pos_right _ (by omega)
 have hgd:Nat.gcd n.natAbs d.natAbs≤d.natAbs:=Nat.gcd_le_right _ (by omega)
 have hg:=Zd run n d hn hd
 have hgz:Zm ((Nat.gcd n.natAbs d.natAbs:Nat):Int):=Zm.aeM (Zm.abs hd) hgd
 have hv:=YB ((Nat.gcd n.natAbs d.natAbs:Nat):Int)
 generalize Nat.gcd n.natAbs d.natAbs=g at *
 have hn1:(ztx n).length≤3000000:=hn
 have hd1:(ztx d).length≤3000000:=hd
 by_cases h:(g:Int)=1
 ·rw[decide_eq_true h] at hv
  obtain⟨f1,a1,a2,a3,a4⟩:=PB LT9 run k fr _ _ _ hv hg h37 h0 h1
  obtain⟨st,x1,x2⟩:=yf LT9 run k f1 n d (by omega) (by omega) a2 a3 a4
  refine⟨st,by rw[aP 2 a1];exact x1,?_⟩
  rw[x2,h,Int.ediv_one,Int.ediv_one]
 ·rw[decide_eq_false h] at hv
  have hg0:(0:Int)<(g:Int):=by omega
  have b:∀ z:Int,(ztx z).length≤3000000→(ztx (z / (g:Int))).length≤4000000:=by
   intro z hz
   rw[fZ] at hz ⊢
   have:=nL (x:=z / (g:Int)) (y:=z) (by
    rcases Int.lt_or_le z 0 with h1 | h1
    ·have h2:z≤z / (g:Int):=by
      rw[Int.le_ediv_iff_mul_le hg0]
      have:(g:Int) ≥ 1:=by omega
      have:=Int.mul_le_mul_of_nonpos_left (a:=z) (b:=(g:Int)) (c:=1) (by omega) (by omega)
      omega
     have h3:z / (g:Int)≤0:=by
      rcases Int.lt_or_le 0 (z / (g:Int)) with h | h
      ·have:=(Int.le_ediv_iff_mul_le hg0).1 (show 1≤z / (g:Int) from h)
       omega
      ·exact h
     omega
    ·have h2:z / (g:Int)≤z:=Int.ediv_le_self _ h1
     have h3:0≤z / (g:Int):=Int.ediv_nonneg h1 (by omega)
     omega)
   cases bx (z / (g:Int)) <;> simp <;> omega
  obtain⟨f1,a1,a2,a3,a4⟩:=KZ LT9 run k fr _ _ _ _ _ _ _ hv hg (I3 run n g hn hgz hg0) (I3 run d g hd hgz hg0) h37 h0 h1
  obtain⟨st,x1,x2⟩:=yf LT9 run k f1 (n / (g:Int)) (d / (g:Int)) (b n hn1) (b d hd1) a2 a3 a4
  exact⟨st,by rw[aP 2 a1];exact x1,x2⟩
def tu (n d:Int):Int:=n / (Nat.gcd n.natAbs d.natAbs:Nat)
def qW (n d:Int):Int:=d / (Nat.gcd n.natAbs d.natAbs:Nat)
def yg:List PV→Option (List PV)
 | [p,q]=>match fT p,fT q with
  | some n,some d=>bif decide (0<d) then some [qs (tu n d) (qW n d)] else
    bif decide (d<0) && ((eh n).blt fE && (eh d).blt fE) then some [qs (tu (-n) (-d)) (qW (-n) (-d))] else none
  | _,_=>none
 | _=>none
theorem ye:Ab.Spec base.P 67 yg:=Ab.Spec.bQ (C:=CC LT9) (cV UN) fun args rs h=>by
 unfold yg at h
 split at h
 ·split at h
  ·rename_i n d ex ey
   obtain⟨rfl,hn⟩:=dj ex
   obtain⟨rfl,hd⟩:=dj ey
   have h00:Zm 0:=by unfold Zm;decide
   have gc:=Ze (runK (CC LT9) 1) d 0 hd h00
   by_cases hp:0<d
   ·rw[decide_eq_true hp] at h
    simp only[cond_true,Option.some.injEq] at h
    subst h
    obtain⟨f1,a1,a2,a3,a4⟩:=PA LT9 (runK (CC LT9) 1) 1 (tx (ztx n)) (tx (ztx d)) _ (by unfold fF;rw[if_neg (by omega),if_neg (by omega)];omega) gc
    obtain⟨st,x1,x2⟩:=yd (runK (CC LT9) 1) 1 f1 n d hn hd hp a2 a3 a4
    have hx:af (CC LT9) (runK (CC LT9) 1) 1 kb ⟨entry 37 [zs n,zs d],[],[]⟩=some (.ret,st):=(aP 2 a1).trans x1
    exact⟨2,_,_,_,_,_,aX xd rfl hx x2,rfl,Wk.refl rfl,trivial⟩
   ·rw[decide_eq_false hp] at h
    simp only[cond_false] at h
    by_cases hng:d<0
    ·rw[decide_eq_true hng,Bool.true_and] at h
     cases hb:(eh n).blt fE && (eh d).blt fE with
     | false=>rw[hb] at h;cases h
     | true =>
      rw[hb] at h
      simp only[cond_true,Option.some.injEq] at h
      subst h
      simp only[Bool.and_eq_true,Nat.blt_eq] at hb
      obtain⟨f1,a1,a2,a3,a4⟩:=PC LT9 (runK (CC LT9) 1) 1 (tx (ztx n)) (tx (ztx d)) _ _ _ (by unfold fF;rw[if_pos hng];omega) gc (Ay _ n hn) (Ay _ d hd)
      obtain⟨st,x1,x2⟩:=yd (runK (CC LT9) 1) 1 f1 (-n) (-d) (Zm.neg hn hb.1) (Zm.neg hd hb.2) (by omega) a2 a3 a4
      have hx:af (CC LT9) (runK (CC LT9) 1) 1 kb ⟨entry 37 [zs n,zs d],[],[]⟩=some (.ret,st):=(aP 2 a1).trans x1
      exact⟨2,_,_,_,_,_,aX xd rfl hx x2,rfl,Wk.refl rfl,trivial⟩
    ·rw[decide_eq_false hng] at h
     cases h
  ·cases h
 ·cases h
def Dv:PV→Option (Int × Int)
 | .sc (.string s)=>match fT (.sc (.string (tx (spl (bys s)).1))),fT (.sc (.string (tx (spl (bys s)).2.1))) with
  | some n,some d=>bif decide (bys s=qtx n d) && decide (0<d) then some (n,d) else none
  | _,_=>none
 | _=>none
theorem oW {p:PV}{n d:Int}(h:Dv p=some (n,d)):p=qs n d∧Zm n∧Zm d∧0<d:=by
 unfold Dv at h
 split at h
 ·rename_i s
  split at h
  ·rename_i n' d' e1 e2
   cases hb:decide (bys s=qtx n' d') && decide (0<d') with
   | false=>rw[hb] at h;cases h
   | true =>
    rw[hb] at h
    simp only[cond_true,Option.some.injEq,Prod.mk.injEq] at h
    obtain⟨rfl,rfl⟩:=h
    simp only[Bool.and_eq_true,decide_eq_true_eq] at hb
    refine⟨?_,(dj e1).2,(dj e2).2,hb.2⟩
    rw[qs,← hb.1,il]
  ·cases h
 ·cases h
def Ac:List PV→Option (List PV)
 | [p]=>match Dv p with
  | some (n,d)=>some [qs (-n) d]
  | none=>none
 | _=>none
theorem uY:Ab.Spec base.P 122 Ac:=Ab.Spec.bQ (C:=CC LT9) (cV UN) fun args rs h=>by
 unfold Ac at h
 split at h
 ·split at h
  ·rename_i n d e
   obtain⟨rfl,hn,hd,h0⟩:=oW e
   simp only[Option.some.injEq] at h
   subst h
   have h1:(ztx n).length≤3000000:=hn
   have h2:(ztx d).length≤3000000:=hd
   have h3:(ztx (-n)).length≤4000000:=by
    rw[fZ] at h1 ⊢
    rw[A0]
    cases bx (-n) <;> simp <;> omega
   obtain⟨st,x1,x2⟩:=Fs LT9 (runK (CC LT9) 1) 1 n d (-n) h3 (by omega) (ac8 _ n d hn hd) (Ay _ n hn)
   exact⟨2,_,_,_,_,_,aX HD rfl x1 x2,rfl,Wk.refl rfl,trivial⟩
  ·cases h
 ·cases h
noncomputable def qF:Lst:=[(65,kW),(68,yk),(66,iw),(69,lT),(67,yg),(122,Ac)]
theorem aab:dL base.P qF:=⟨nX,yj,mQ,oN,ye,uY,trivial⟩
theorem XT:bw qF 65=fun a=>kW (aK a):=rfl
theorem XS:bw qF 68=fun a=>yk (aK a):=rfl
theorem XU:bw qF 66=fun a=>iw (aK a):=rfl
theorem Rw:bw qF 67=fun a=>yg (aK a):=rfl
theorem tV (run:ar)(n d:Int)(hn:Zm n)(hd:Zm d):aA qF run 65 [qs n d] (.tup [zs n,zs d,.sc (.bool (!decide (d=1)))]):=fun dr hp =>
 bu lG XT run dr hp _ [zs n,zs d,.sc (.bool (!decide (d=1)))] rfl rfl (Om n d hn hd)
theorem Az (run:ar)(x y:Int)(hx:Zm x)(hy:Zm y):aA qF run 68 [zs x,zs y] (zs (x*y)):=fun dr hp =>
 bu ER XS run dr hp _ [zs (x*y)] rfl rfl (by simp only[yk,cT x hx,cT y hy])
theorem SW (run:ar)(n d:Int)(hn:Zm n)(hd:Zm d)(h0:0<d):aA qF run 67 [zs n,zs d] (qs (tu n d) (qW n d)):=fun dr hp =>
 bu Ow Rw run dr hp _ [qs (tu n d) (qW n d)] rfl rfl (by simp only[yg,cT n hn,cT d hd,decide_eq_true h0,cond_true])
def zmB (z:Int):Bool:=(ztx z).length.ble fE
theorem zA {z:Int}(h:zmB z=true):Zm z:=by unfold zmB at h;rw[Nat.ble_eq] at h;exact h
theorem I7 (run:ar)(x y:Int)(hx:Zm x)(hy:Zm y):aA qF run 66 [zs x,zs y] (zs (x+y)):=fun dr hp =>
 bu qP XU run dr hp _ [zs (x+y)] rfl rfl (by simp only[iw,cT x hx,cT y hy])
theorem Fq (L:Lst)(run:ar)(k:Nat)(s t a b c d r:ByteArray)(u v:Bool)(hb:fl .eql b { data:=#[49] } = some (.bool true))(hd:fl .eql d { data:=#[49] } = some (.bool true))(g1:aA L run 65 [.sc (.string s)] (.tup [.sc (.string a),.sc (.string b),.sc (.bool u)]))(g2:aA L run 65 [.sc (.string t)] (.tup [.sc (.string c),.sc (.string d),.sc (.bool v)]))
  (g3:aA L run 66 [.sc (.string a),.sc (.string c)] (.sc (.string r))) :
  ∃ st,af (CC L) run k (Tryz.f24.body.getD .skip) ⟨entry 43 [.sc (.string s),.sc (.string t)],[],[]⟩=some (.ret,st)∧aZ TT st.fr st.hp Tryz.f24.results.toList=some [.sc (.string r)]:=by
 obtain⟨e1,e2,e3⟩:=cC 41 (.sc (.string s)) (.sc (.string t))
 generalize entry 43 [.sc (.string s),.sc (.string t)]=fr0 at *
 unfold aA at *
 simp[Tryz.f24,e1,e2,e3,af,aJ,ao,aq,aH,ag,ai,aQ,aj,an,aF,aC,FP.none,bd,aw,aa,ae,ab,g1,g2,g3,hb,hd,aZ]
theorem Fp (L:Lst)(run:ar)(k:Nat)(s t a b c d e f g h r:ByteArray)(u v w1 w2:Bool)(hw:(w1 && w2)=false)(hb:fl .eql b { data:=#[49] } = some (.bool w1))(hd:fl .eql d { data:=#[49] } = some (.bool w2))(g1:aA L run 65 [.sc (.string s)] (.tup [.sc (.string a),.sc (.string b),.sc (.bool u)]))(g2:aA L run 65 [.sc (.string t)] (.tup [.sc (.string c),.sc (.string d),.sc (.bool v)]))
  (g3:aA L run 68 [.sc (.string a),.sc (.string d)] (.sc (.string e))) (g4:aA L run 68 [.sc (.string c),.sc (.string b)] (.sc (.string f))) (g5:aA L run 66 [.sc (.string e),.sc (.string f)] (.sc (.string g))) (g6:aA L run 68 [.sc (.string b),.sc (.string d)] (.sc (.string h))) (g7:aA L run 67 [.sc (.string g),.sc (.string h)] (.sc (.string r))) :
  ∃ st,af (CC L) run k (Tryz.f24.body.getD .skip) ⟨entry 43 [.sc (.string s),.sc (.string t)],[],[]⟩=some (.ret,st)∧aZ TT st.fr st.hp Tryz.f24.results.toList=some [.sc (.string r)]:=by
 obtain⟨e1,e2,e3⟩:=cC 41 (.sc (.string s)) (.sc (.string t))
 generalize entry 43 [.sc (.string s),.sc (.string t)]=fr0 at *
 unfold aA at *
 cases w1 <;> cases w2 <;> simp only[Bool.and_true,Bool.and_false,Bool.and_self,Bool.true_eq_false] at hw <;> simp[Tryz.f24,e1,e2,e3,af,aJ,ao,aq,aH,ag,ai,aQ,aj,an,aF,aC,FP.none,bd,aw,aa,ae,ab,g1,g2,g3,g4,g5,g6,g7,hb,hd,undef,aZ]
def PD:List PV→Option (List PV)
 | [p,q]=>match Dv p,Dv q with
  | some (n,d),some (m,k)=>bif decide (d=1) && decide (k=1) then some [qs (n+m) 1] else
    bif zmB (n*k) && (zmB (m*d) && (zmB (n*k+m*d) && zmB (d*k))) then some [qs (tu (n*k+m*d) (d*k)) (qW (n*k+m*d) (d*k))] else none
  | _,_=>none
 | _=>none
theorem K9:Ab.Spec base.P 24 PD:=Ab.Spec.bQ (C:=CC qF) (cV aab) fun args rs h=>by
 unfold PD at h
 split at h
 ·split at h
  ·rename_i n d m k ex ey
   obtain⟨rfl,hn,hd,hd0⟩:=oW ex
   obtain⟨rfl,hm,hk,hk0⟩:=oW ey
   cases hw:decide (d=1) && decide (k=1) with
   | true =>
    rw[hw] at h
    simp only[cond_true,Option.some.injEq] at h
    subst h
    simp only[Bool.and_eq_true,decide_eq_true_eq] at hw
    obtain⟨rfl,rfl⟩:=hw
    obtain⟨st,x1,x2⟩:=Fq qF (runK (CC qF) 1) 1 _ _ _ _ _ _ _ _ _ (ob 1) (ob 1) (tV _ n 1 hn hd) (tV _ m 1 hm hk) (I7 _ n m hn hm)
    exact⟨2,_,_,_,_,_,aX tm rfl x1 x2,rfl,Wk.refl rfl,trivial⟩
   | false =>
    rw[hw] at h
    simp only[cond_false] at h
    cases hb:zmB (n*k) && (zmB (m*d) && (zmB (n*k+m*d) && zmB (d*k))) with
    | false=>rw[hb] at h;cases h
    | true =>
     rw[hb] at h
     simp only[cond_true,Option.some.injEq] at h
     subst h
     simp only[Bool.and_eq_true] at hb
     obtain⟨b1,b2,b3,b4⟩:=hb
     obtain⟨st,x1,x2⟩:=Fp qF (runK (CC qF) 1) 1 _ _ _ _ _ _ _ _ _ _ _ _ _ _ _ hw (ob d) (ob k) (tV _ n d hn hd) (tV _ m k hm hk) (Az _ n k hn hk) (Az _ m d hm hd) (I7 _ _ _ (zA b1) (zA b2)) (Az _ d k hd hk) (SW _ _ _ (zA b3) (zA b4) (Int.mul_pos hd0 hk0))
     exact⟨2,_,_,_,_,_,aX tm rfl x1 x2,rfl,Wk.refl rfl,trivial⟩
  ·cases h
 ·cases h
end Go.Proofs.YtjdmodeenbdfpaaGreat
namespace Go.Ab
open Go
noncomputable def ctr {α:Type}(e:α→List PV)(ok:α→Prop)(f:α→List PV)(a:List PV):Option (List PV) :=
 @dite _ (∃ x,ok x∧e x=a) (Classical.propDecidable _) (fun h=>some (f h.choose)) (fun _=>none)
theorem dz {α:Type}{e:α→List PV}{ok:α→Prop}{f:α→List PV}{a r:List PV}(h:ctr e ok f a=some r):∃ x,ok x∧e x=a∧f x=r:=by
 unfold ctr at h
 split at h
 ·rename_i hx
  exact⟨hx.choose,hx.choose_spec.1,hx.choose_spec.2,by simpa using h⟩
 ·cases h
theorem rN {α:Type}{e:α→List PV}{ok:α→Prop}{f:α→List PV}(inj:∀ x y,ok x→ok y→e x=e y→f x=f y){x:α}(hx:ok x):ctr e ok f (e x)=some (f x):=by
 have h:∃ y,ok y∧e y=e x:=⟨x,hx,rfl⟩
 unfold ctr
 rw[dif_pos h,inj _ x h.choose_spec.1 hx h.choose_spec.2]
structure El {α:Type} (s:Nat) (e:α→List PV):Prop where
 len:∀ a,(e a).length=s
 okc:∀ a,bg (e a)=true
 idf:∀ a,cq (e a)=true
 sn:∀ hp d a,bt (snap hp (d+1)) (e a)=some (e a,[])
structure Ec {α:Type} (s:Nat) (e:α→List PV):Prop extends El s e where
 can:∀ a,aK (e a)=e a
theorem Sc1.ec {α:Type}{e:α→PV}(h:Sc1 e):Ec 1 fun a=>[e a] where
 len:=fun _=>rfl
 okc:=fun a=>by simp only[bg,h.okc,Bool.and_self]
 can:=fun a=>by simp only[Ab.aK,h.canon]
 idf:=fun a=>by simp only[cq,h.idf,Bool.and_self]
 sn:=fun hp d a=>by
  have:=h.Ie hp d [a]
  simpa using this
theorem mW:∀ (a b:List PV),bg (a++b)=(bg a && bg b)
 | [],b=>rfl
 | x::a,b=>by simp only[List.cons_append,bg,mW a b,Bool.and_assoc]
theorem kK:∀ (a b:List PV),aK (a++b)=aK a++aK b
 | [],b=>by simp[aK]
 | x::a,b=>by simp only[List.cons_append,aK,kK a b]
theorem kD {f:PV→Option (PV × List Nat)} : ∀ {a b a' b':List PV} {i j:List Nat},bt f a=some (a',i)→bt f b=some (b',j)→bt f (a++b)=some (a'++b',i++j)
 | [],b,a',b',i,j,h1,h2=>by
  simp only[bt,Option.some.injEq,Prod.mk.injEq] at h1
  obtain⟨rfl,rfl⟩:=h1
  simpa using h2
 | x::a,b,a',b',i,j,h1,h2=>by
  simp only[bt] at h1
  cases hx:f x with
  | none=>rw[hx] at h1;cases h1
  | some y =>
   rw[hx] at h1
   simp only at h1
   cases ha:bt f a with
   | none=>rw[ha] at h1;cases h1
   | some z =>
    rw[ha] at h1
    simp only[Option.some.injEq,Prod.mk.injEq] at h1
    obtain⟨rfl,rfl⟩:=h1
    simp only[List.cons_append,bt,hx,kD ha h2,List.append_assoc]
def gU {α:Type}(e:α→List PV)(l:List α):PV:=.imm l.length false (l.flatMap e)
section
variable {α:Type} {s:Nat} {e:α→List PV}
theorem El.length (h:El s e)(l:List α):(l.flatMap e).length=l.length*s:=by
 induction l with
 | nil=>simp
 | cons a l ih=>rw[List.flatMap_cons,List.length_append,h.len,ih,List.length_cons,Nat.succ_mul];omega
theorem El.Q8 (h:El s e):∀ l:List α,bg (l.flatMap e)=true
 | []=>rfl
 | a::l=>by rw[List.flatMap_cons,mW,h.okc,h.Q8 l];rfl
theorem Ec.afq (h:Ec s e):∀ l:List α,aK (l.flatMap e)=l.flatMap e
 | []=>rfl
 | a::l=>by rw[List.flatMap_cons,kK,h.can,h.afq l]
theorem El.sns (h:El s e)(hp:List Blk)(d:Nat):∀ l:List α,bt (snap hp (d+1)) (l.flatMap e)=some (l.flatMap e,[])
 | []=>rfl
 | a::l=>kD (h.sn hp d a) (h.sns hp d l)
theorem Ec.adL (h:Ec s e)(n:Nat)(x:Bool)(l:List α)(hl:l.length=n):canon (.imm n x (l.flatMap e))=gU e l:=by
 rw[canon,h.afq,gU,hl]
theorem Ec.Hf (h:Ec s e)(l:List α):canon (gU e l)=gU e l:=h.adL _ _ l rfl
theorem Ec.list (h:Ec s e):Ec 1 fun l:List α=>[gU e l] where
 len:=fun _=>rfl
 okc:=fun _=>rfl
 can:=fun l=>by simp only[aK,h.Hf]
 idf:=fun l=>by simp only[gU,cq,PV.cO,Bool.and_self]
 sn:=fun _ _ _=>rfl
theorem Tw (h:El s e):∀ (l:List α) (i:Nat),i≤l.length→br (l.flatMap e) (i*s)=(l.drop i).flatMap e
 | l,0,_=>by rw[Nat.zero_mul,cL,List.drop_zero,List.drop_zero]
 | [],i+1,hi=>by simp at hi
 | a::l,i+1,hi=>by
  rw[cL,List.flatMap_cons]
  have:(i+1)*s=(e a).length+i*s:=by rw[h.len,Nat.succ_mul];omega
  rw[this,← List.drop_drop,List.drop_left,← cL,Tw h l i (by simpa using hi),List.drop_succ_cons]
theorem oc (h:El s e)(l:List α)(i:Nat)(hi:i<l.length):br (l.flatMap e) (i*s)=e l[i]++(l.drop (i+1)).flatMap e:=by
 rw[Tw h l i (by omega),List.drop_eq_getElem_cons hi,List.flatMap_cons]
theorem qK (h:El s e)(l m:List α):bG ((l++m).flatMap e) (l.length*s)=some (l.flatMap e):=by
 rw[dM (by rw[h.length,List.length_append,Nat.add_mul];omega),List.flatMap_append,← h.length l,List.take_left]
theorem vM:∀ (a b c:List PV),a.length=b.length→cj (a++c) 0 b=some (b++c)
 | [],[],c,_=>by cases c <;> rfl
 | x::a,y::b,c,h=>by simp only[List.cons_append,cj,vM a b c (by simpa using h)]
 | [],_::_,_,h=>by simp at h
 | _::_,[],_,h=>by simp at h
theorem yE:∀ (a c v r:List PV) (n:Nat),cj c n v=some r→cj (a++c) (a.length+n) v=some (a++r)
 | [],c,v,r,n,h=>by simpa using h
 | x::a,c,v,r,n,h=>by
  have:(x::a).length+n=(a.length+n)+1:=by simp;omega
  rw[this,List.cons_append,cj,yE a c v r n h,List.cons_append]
def gC (s:Nat)(e:α→List PV)(b:Nat)(hp:List Blk)(l:List α)(p:PV):Prop :=
 b≤hp.length∧((l=[]∧p = .sc (.slice none 0 0))∨∃ id m x,b≤id∧id<hp.length∧p = .own id s 0 l.length x∧(x=true→m=[])∧aV hp id=some ⟨.live,(l++m).flatMap e⟩)
theorem gC.nil {b:Nat}{hp:List Blk}(h:b≤hp.length):gC s e b hp [] (.sc (.slice none 0 0)):=⟨h,.inl ⟨rfl,rfl⟩⟩
theorem gC.len {b:Nat}{hp:List Blk}{l:List α}{p:PV}(h:gC s e b hp l p):ef p=some l.length:=by
 rcases h.2 with ⟨rfl,rfl⟩| ⟨id,m,x,_,_,rfl,_,h⟩ <;> rfl
theorem gC.cells {b:Nat}{hp:List Blk}{l:List α}{p:PV}(h:gC s e b hp l p):p.cells?=some [p]:=by
 rcases h.2 with ⟨rfl,rfl⟩| ⟨id,m,x,_,_,rfl,_,h⟩ <;> rfl
theorem gC.okc {b:Nat}{hp:List Blk}{l:List α}{p:PV}(h:gC s e b hp l p):dw p=true:=by
 rcases h.2 with ⟨rfl,rfl⟩| ⟨id,m,x,_,_,rfl,_,h⟩ <;> rfl
theorem gC.app (he:El s e){b:Nat}{hp:List Blk}{l:List α}{p:PV}(h:gC s e b hp l p)(ns:List α)(h0:ns≠[])(hl:l.length+ns.length<1000000000) :
  ∃ p' hp' fp,df hp s p ns.length (ns.flatMap e)=some (p',hp',fp)∧gC s e b hp' (l++ns) p'∧(∀ i,i<b→aV hp' i=aV hp i)∧hp.length≤hp'.length:=by
 obtain⟨hb,h⟩:=h
 have hn:ns.length≠0:=by simpa using h0
 have hml : ¬ (cY<ns.length):=by unfold cY;omega
 have hml2:l.length+ns.length≤cY:=by unfold cY;omega
 rcases h with ⟨rfl,rfl⟩| ⟨id,m,x,hid,hid2,rfl,hx,h⟩
 ·refine⟨.own hp.length s 0 ns.length false,aO hp (ns.flatMap e),⟨[],[hp.length],true,false⟩,?_,⟨by simp[aO];omega,.inr ⟨hp.length,[],false,hb,by simp[aO],by simp,nofun,?_⟩⟩,fun i hi => ?_,by simp[aO]⟩
  ·simp only[df]
   rw[if_neg hn,if_pos (by omega)]
  ·rw[bN,if_pos rfl];simp
  ·rw[bN,if_neg (by omega)]
 ·have ht:bG (br ((l++m).flatMap e) 0) (l.length*s)=some (l.flatMap e):=by
   rw[cL,List.drop_zero,qK (s:=s) he]
  cases x with
  | true =>
   refine⟨.own hp.length s 0 (l.length+ns.length) false,aO hp (l.flatMap e++ns.flatMap e),⟨[id],[hp.length],true,false⟩,?_,⟨by simp[aO];omega,.inr ⟨hp.length,[],false,hb,by simp[aO],by simp,nofun,?_⟩⟩,fun i hi => ?_,by simp[aO]⟩
   ·simp only[df,h,ht]
    rw[if_neg (by simp),if_neg hn,if_neg (by simp),if_pos hml2]
   ·rw[bN,if_pos rfl];simp
   ·rw[bN,if_neg (by omega)]
  | false =>
   refine⟨.own hp.length s 0 (l.length+ns.length) false,aO (bO hp id ⟨.dead,[]⟩) (l.flatMap e++ns.flatMap e),⟨[],[id,hp.length],true,false⟩,?_,⟨by simp[aO,bF];omega,.inr ⟨hp.length,[],false,hb,by simp[aO,bF],by simp,nofun,?_⟩⟩,fun i hi => ?_,by simp[aO,bF]⟩
   ·simp only[df,h,ht]
    rw[if_neg (by simp),if_pos hml2]
   ·rw[bN,bF,if_pos rfl];simp
   ·rw[bN,bF,if_neg (by omega),cQ h,if_neg (by omega)]
theorem gC.snap (he:Ec s e){b:Nat}{hp:List Blk}{l:List α}{p:PV}(h:gC s e b hp l p):∃ q ids,(∀ d,Ab.snap hp (d+2) p=some (q,ids))∧Wk q (gU e l)∧Ab.canon q=gU e l∧(∀ i,i<b→aV (roB hp ids) i=aV hp i)∧∀ i ∈ ids,b≤i:=by
 obtain⟨hb,h⟩:=h
 rcases h with ⟨rfl,rfl⟩| ⟨id,m,x,hid,_,rfl,_,h⟩
 ·exact⟨.sc (.slice none 0 0),[],fun _=>rfl,Wk.nil false,rfl,fun _ _=>rfl,by simp⟩
 ·have ht:bG (br ((l++m).flatMap e) 0) (l.length*s)=some (l.flatMap e):=by
   rw[cL,List.drop_zero,qK he.toEl]
  refine⟨.imm l.length x (l.flatMap e),[id],fun d => ?_,?_,he.adL _ x l rfl,fun i hi=>zT hp id i (by omega),by simpa using hid⟩
  ·rw[Ab.snap]
   simp only[h]
   rw[if_neg (by simp),ht]
   simp only[he.sns hp d l]
  ·cases x
   ·exact Wk.refl (by simp[PV.cO])
   ·exact Wk.imm _ _ _
theorem gC.Gj (he:Ec s e){b:Nat}{hp:List Blk}{l:List α}{p:PV}(h:gC s e b hp l p) :
  ∃ rs ids,bt (Ab.snap hp bp) [p]=some (rs,ids)∧WkL rs [gU e l]:=by
 obtain⟨q,ids,h1,h2,-⟩:=h.snap he
 refine⟨[q],ids++[],?_,h2,trivial⟩
 simp only[bp,bt,h1 10]
theorem gC.rd (he:El s e){b:Nat}{hp:List Blk}{l:List α}{p:PV}(h:gC s e b hp l p):∃ ids,fO hp s p=some (l.length,l.flatMap e,ids):=by
 obtain⟨hb,h⟩:=h
 rcases h with ⟨rfl,rfl⟩| ⟨id,m,x,hid,_,rfl,_,h⟩
 ·exact⟨[],rfl⟩
 ·have ht:bG (br ((l++m).flatMap e) 0) (l.length*s)=some (l.flatMap e):=by
   rw[cL,List.drop_zero,qK (s:=s) he]
  refine⟨[id],?_⟩
  simp only[fO,h]
  rw[if_neg (by simp),ht]
end
end Go.Ab
namespace Go.Proofs.YtjdmodeenbdfpaaGreat
open Go Go.Ab
def Nb (k:Nat)(z:Int):Prop:=z.natAbs<10 ^ k
def Rb (k:Nat)(x:Rat):Prop:=Nb k x.num∧Nb k x.den
theorem Nb.mono {j k:Nat}{z:Int}(h:Nb j z)(hk:j≤k):Nb k z:=Nat.lt_of_lt_of_le h (Nat.pow_le_pow_right (by omega) hk)
theorem Rb.mono {j k:Nat}{z:Rat}(h:Rb j z)(hk:j≤k):Rb k z:=⟨h.1.mono hk,h.2.mono hk⟩
theorem Nb.sm {k:Nat}{z:Int}(h:Nb k z)(hk:k≤2000000):Sm z:=by
 have h1:z.natAbs<1000000000 ^ (k / 9+1):=by
  refine Nat.lt_of_lt_of_le h ?_
  have:(1000000000:Nat)=10 ^ 9:=by decide
  rw[this,← Nat.pow_mul]
  exact Nat.pow_le_pow_right (by omega) (by omega)
 exact Nat.lt_of_le_of_lt (di h1) (by omega)
theorem Nb.smB {k:Nat}{z:Int}(h:Nb k z)(hk:k≤2000000):smB z=true:=by
 unfold YtjdmodeenbdfpaaGreat.smB
 rw[Nat.blt_eq]
 have hN:0<11000000:=by decide
 have hK:4*k≤11000000:=by omega
 generalize 11000000=N at hN hK ⊢
 by_cases h0:z.natAbs=0
 ·rw[h0];exact hN
 ·rw[Nat.log2_lt h0]
  refine Nat.lt_of_lt_of_le h ?_
  have:(10:Nat) ^ k≤16 ^ k:=Nat.pow_le_pow_left (by omega) k
  refine Nat.le_trans this ?_
  have e:(16:Nat)=2 ^ 4:=by decide
  rw[e,← Nat.pow_mul]
  exact Nat.pow_le_pow_right (by decide) hK
theorem Nb.eh {k:Nat}{z:Int}(h:Nb k z):eh z≤k+1:=by
 unfold Ab.eh
 rw[rL (by omega)]
 exact Nat.lt_of_lt_of_le h (Nat.pow_le_pow_right (by omega) (by omega))
theorem Nb.zm {k:Nat}{z:Int}(h:Nb k z)(hk:k≤2000000):Zm z:=by
 unfold Zm
 rw[fZ]
 have:=h.eh
 unfold fE
 cases bx z <;> simp <;> omega
theorem Nb.zmB {k:Nat}{z:Int}(h:Nb k z)(hk:k≤2000000):zmB z=true:=by
 unfold YtjdmodeenbdfpaaGreat.zmB
 rw[Nat.ble_eq]
 exact h.zm hk
theorem Nb.mul {j k:Nat}{x y:Int}(h:Nb j x)(h':Nb k y):Nb (j+k) (x*y):=by
 unfold Nb at *
 rw[Int.natAbs_mul,Nat.pow_add]
 exact Nat.mul_lt_mul'' h h'
theorem Nb.add {k:Nat}{x y:Int}(h:Nb k x)(h':Nb k y):Nb (k+1) (x+y):=by
 unfold Nb at *
 have:=Int.natAbs_add_le x y
 rw[Nat.pow_succ]
 omega
theorem Nb.neg {k:Nat}{x:Int}(h:Nb k x):Nb k (-x):=by unfold Nb at *;rw[Int.natAbs_neg];exact h
theorem Nb.div {k:Nat}{x:Int}(h:Nb k x)(g:Nat):Nb k (x / g):=by
 unfold Nb at *
 refine Nat.lt_of_le_of_lt ?_ h
 exact Int.natAbs_ediv_le_natAbs x g
theorem Nb.den {k:Nat}{x:Rat}(h:Rb k x):Nb k x.den:=h.2
theorem BT (x y:Rat):tu (x.num*y.den+y.num*x.den) (x.den*y.den)=(x+y).num:=by
 rw[Rat.add_def,Rat.normalize_eq]
 simp only[tu,Int.natAbs_mul,Int.natAbs_natCast]
theorem BV (x y:Rat):qW (x.num*y.den+y.num*x.den) (x.den*y.den)=((x+y).den:Int):=by
 rw[Rat.add_def,Rat.normalize_eq]
 simp only[qW,Int.natAbs_mul,Int.natAbs_natCast]
 simp
theorem BS (x y:Rat):tu (x.num*y.num) (x.den*y.den)=(x*y).num:=by
 rw[Rat.mul_def,Rat.normalize_eq]
 simp only[tu,Int.natAbs_mul,Int.natAbs_natCast]
theorem BU (x y:Rat):qW (x.num*y.num) (x.den*y.den)=((x*y).den:Int):=by
 rw[Rat.mul_def,Rat.normalize_eq]
 simp only[qW,Int.natAbs_mul,Int.natAbs_natCast]
 simp
theorem Rb.mul {j k:Nat}{x y:Rat}(h:Rb j x)(h':Rb k y):Rb (j+k) (x*y):=by
 constructor
 ·rw[← BS];exact (h.1.mul h'.1).div _
 ·rw[← BU];exact (h.2.mul h'.2).div _
theorem Rb.add {j k:Nat}{x y:Rat}(h:Rb j x)(h':Rb k y):Rb (j+k+1) (x+y):=by
 constructor
 ·rw[← BT]
  refine (Nb.add (h.1.mul h'.2) ?_).div _
  rw[Nat.add_comm]
  exact h'.1.mul h.2
 ·rw[← BV];exact ((h.2.mul h'.2).div _).mono (by omega)
theorem Rb.neg {k:Nat}{x:Rat}(h:Rb k x):Rb k (-x):=by
 constructor
 ·rw[Rat.neg_num];exact h.1.neg
 ·rw[Rat.neg_den];exact h.2
theorem Rb.sub {j k:Nat}{x y:Rat}(h:Rb j x)(h':Rb k y):Rb (j+k+1) (x - y):=by
 rw[Rat.sub_eq_add_neg];exact h.add h'.neg
theorem Rb.zero (k:Nat):Rb (k+1) 0:=⟨Nat.pow_pos (by omega),Nat.one_lt_pow (by omega) (by omega)⟩
theorem Rb.one (k:Nat):Rb (k+1) 1:=⟨Nat.one_lt_pow (by omega) (by omega),Nat.one_lt_pow (by omega) (by omega)⟩
def rv:Option Rat→PV
 | none=>cb 0 0
 | some x=>cb x.num x.den
def vv:Option Rat→Rat
 | none=>0
 | some x=>x
theorem V6 (u:Option Rat):∃ b,rv u=cb (vv u).num b∧dC b=(vv u).den∧(∀ k,Rb (k+1) (vv u)→Nb (k+1) b):=by
 cases u with
 | none=>exact⟨0,rfl,rfl,fun k _=>Nat.pow_pos (by omega)⟩
 | some x =>
  refine⟨x.den,rfl,?_,fun k h=>h.2⟩
  have:=x.den_pos
  unfold dC
  rw[if_neg (by omega)]
  rfl
theorem jh (n d:Int)(h:0<d):kg n d=tu n d∧kh n d=qW n d:=by
 have hg:n.natAbs % Nat.gcd n.natAbs d.natAbs=0:=Nat.mod_eq_zero_of_dvd (Nat.gcd_dvd_left _ _)
 have hg0:0<Nat.gcd n.natAbs d.natAbs:=Nat.gcd_pos_of_pos_right _ (by omega)
 unfold kg kh tu qW
 have hn:bx d=false:=by rw[cN];simp;omega
 rw[hn,cond_false]
 generalize Nat.gcd n.natAbs d.natAbs=g at *
 constructor
 ·obtain⟨q,hq⟩:=Nat.dvd_of_mod_eq_zero hg
  have hq2:n.natAbs / g=q:=by rw[hq];exact Nat.mul_div_cancel_left _ (by omega)
  rw[hq2]
  unfold sgn
  rw[cN]
  have hgq:((g*q:Nat):Int)=(g:Int)*q:=by simp
  by_cases hs:n<0
  ·have h2:n=(g:Int)*(-(q:Int)):=by
    rw[Int.mul_neg,← hgq,← hq];omega
   rw[decide_eq_true hs,cond_true,Int.negOfNat_eq]
   conv=>rhs;rw[h2]
   rw[Int.mul_ediv_cancel_left _ (by omega)]
   rfl
  ·have h2:n=(g:Int)*(q:Int):=by
    rw[← hgq,← hq];omega
   rw[decide_eq_false hs,cond_false]
   conv=>rhs;rw[h2]
   rw[Int.mul_ediv_cancel_left _ (by omega)]
   rfl
 ·obtain⟨m,rfl⟩:=Int.eq_ofNat_of_zero_le (Int.le_of_lt h)
  simp
theorem lM (n d:Int)(h:0<d):(Rat.divInt n d).num=tu n d∧((Rat.divInt n d).den:Int)=qW n d:=by
 obtain⟨m,rfl⟩:=Int.eq_ofNat_of_zero_le (Int.le_of_lt h)
 rw[Rat.divInt_ofNat,Rat.mkRat_def,dif_neg (by omega),Rat.normalize_eq]
 exact⟨rfl,by simp[qW]⟩
theorem sX (n d:Int)(h:d≠0):kg n d=(Rat.divInt n d).num∧kh n d=(Rat.divInt n d).den:=by
 by_cases hd:0<d
 ·rw[(jh n d hd).1,(jh n d hd).2,(lM n d hd).1,(lM n d hd).2];exact⟨rfl,rfl⟩
 ·have e1:kg n d=kg (-n) (-d):=by
   have h1:bx d=true:=by rw[cN];simp;omega
   have h2:bx (-d)=false:=by rw[cN];simp;omega
   unfold kg
   rw[h1,h2,Int.natAbs_neg,Int.natAbs_neg]
   rfl
  have e2:kh n d=kh (-n) (-d):=by unfold kh;rw[Int.natAbs_neg,Int.natAbs_neg]
  rw[e1,e2,← Rat.neg_divInt_neg,(jh _ _ (by omega:0 < -d)).1,(jh _ _ (by omega:0 < -d)).2,(lM _ _ (by omega:0 < -d)).1,(lM _ _ (by omega:0 < -d)).2]
  exact⟨rfl,rfl⟩
theorem wF (x y:Rat):x / y=Rat.divInt (x.num*y.den) (x.den*y.num):=by
 rw[Rat.div_def,Rat.inv_def]
 conv=>lhs;rw[← Rat.num_divInt_den x]
 rw[Rat.divInt_mul_divInt]
def kV (x:Rat):Int:=x.num.sign
theorem mq {u:Option Rat}{k:Nat}(h:Rb k (vv u))(hk:k≤2000000):∃ b,rv u=cb (vv u).num b∧dC b=(vv u).den∧gF (rv u)=some ((vv u).num,b)∧Nb k b:=by
 obtain⟨b,h1,h2,h3⟩:=V6 u
 cases u with
 | none =>
  refine⟨0,rfl,rfl,gV (h.1.sm hk) (by unfold Sm;decide),Nat.pow_pos (by omega)⟩
 | some x =>
  have:=x.den_pos
  refine⟨x.den,rfl,?_,gV (h.1.sm hk) (h.2.sm hk),h.2⟩
  unfold dC
  rw[if_neg (by omega)]
  rfl
theorem nS (x:Rat):rv (some x)=cb x.num x.den:=rfl
theorem G9 (x:Rat):(x.den:Int)≠0:=by have:=x.den_pos;omega
theorem yG (n:Int)(x y:Rat):pL n (x.den*y.den)=true:=by
 have h1:=x.den_pos
 have h2:=y.den_pos
 unfold pL
 rw[Int.natAbs_mul,Int.natAbs_natCast,Int.natAbs_natCast]
 have:x.den*y.den≠0:=Nat.ne_of_gt (Nat.mul_pos h1 h2)
 simp only[Bool.not_eq_true']
 cases e:(x.den*y.den).beq 0 with
 | false=>rfl
 | true=>exact absurd (Nat.eq_of_beq_eq_true e) this
theorem B0 {u v:Option Rat}{j k:Nat}(hu:Rb j (vv u))(hv:Rb k (vv v))(h:j+k≤1000000):iG [rv u,rv v]=some [rv (some (vv u+vv v))]:=by
 obtain⟨b,b1,b2,b3,b4⟩:=mq hu (by omega)
 obtain⟨d,d1,d2,d3,d4⟩:=mq hv (by omega)
 have g1:=hu.1.mul hv.2
 have g2:=hv.1.mul hu.2
 rw[Nat.add_comm k j] at g2
 have g3:=hu.2.mul hv.2
 have g4:=yG ((vv u).num*(vv v).den+(vv v).num*(vv u).den) (vv u) (vv v)
 have hp:(0:Int)<(vv u).den*(vv v).den:=Int.mul_pos (by have:=(vv u).den_pos;omega) (by have:=(vv v).den_pos;omega)
 simp only[iG,b3,d3,b2,d2,g1.smB (by omega),g2.smB (by omega),(g1.add g2).smB (by omega),g3.smB (by omega),g4,Bool.and_self,cond_true,nS,(jh _ _ hp).1,(jh _ _ hp).2,BT,BV]
theorem O8 {u v:Option Rat}{j k:Nat}(hu:Rb j (vv u))(hv:Rb k (vv v))(h:j+k≤1000000):j8 [rv u,rv v]=some [rv (some (vv u*vv v))]:=by
 obtain⟨b,b1,b2,b3,b4⟩:=mq hu (by omega)
 obtain⟨d,d1,d2,d3,d4⟩:=mq hv (by omega)
 have g1:=hu.1.mul hv.1
 have g3:=hu.2.mul hv.2
 have g4:=yG ((vv u).num*(vv v).num) (vv u) (vv v)
 have hp:(0:Int)<(vv u).den*(vv v).den:=Int.mul_pos (by have:=(vv u).den_pos;omega) (by have:=(vv v).den_pos;omega)
 simp only[j8,b3,d3,b2,d2,g1.smB (by omega),g3.smB (by omega),g4,Bool.and_self,cond_true,nS,(jh _ _ hp).1,(jh _ _ hp).2,BS,BU]
def Fa:Option Rat→Option Rat
 | none=>none
 | some x=>some (-x)
theorem N0 (u:Option Rat):vv (Fa u) = - vv u:=by cases u <;> rfl
theorem BP {u:Option Rat}{j:Nat}(hu:Rb j (vv u))(h:j≤1000000):jI [rv u]=some [rv (Fa u)]:=by
 obtain⟨b,b1,b2,b3,b4⟩:=mq hu (by omega)
 cases u with
 | none=>rfl
 | some x =>
  have h2:gF (cb x.num x.den)=some (x.num,(x.den:Int)):=gV (hu.1.sm (by omega)) (hu.2.sm (by omega))
  simp only[jI,nS,h2,Fa,Rat.neg_num,Rat.neg_den]
theorem x6 {u:Option Rat}{j:Nat}(hu:Rb j (vv u))(h:j≤1000000):iq [rv u]=some [Ab.bJ (kV (vv u))]:=by
 obtain⟨b,b1,b2,b3,b4⟩:=mq hu (by omega)
 simp only[iq,b3,kV]
theorem BN {u v:Option Rat}{j k:Nat}(hu:Rb j (vv u))(hv:Rb k (vv v))(h:j+k≤1000000):mM [rv u,rv v]=some [rv (some (vv u - vv v))]:=by
 obtain⟨d,d1,d2,d3,d4⟩:=mq hv (by omega)
 have e:cb (-(vv v).num) d=rv (Fa v):=by
  have h1:=BP hv (by omega)
  simp only[jI,d3,Option.some.injEq,List.cons.injEq,and_true] at h1
  exact h1
 have h2:Rb k (vv (Fa v)):=by rw[N0];exact hv.neg
 simp only[mM,d3,e,B0 hu h2 h,N0,Rat.sub_eq_add_neg]
theorem qA (u:Option Rat):canon (rv u)=rv u:=by cases u <;> exact AK _ _
theorem zk (u:Option Rat):aK [rv u]=[rv u]:=by simp only[aK,qA]
theorem rO (u v:Option Rat):aK [rv u,rv v]=[rv u,rv v]:=by simp only[aK,qA]
theorem VH (hp:List Blk)(d:Nat)(u:Option Rat):Ab.snap hp (d+2) (rv u)=some (rv u,[]):=by cases u <;> rfl
theorem uw (hp:List Blk)(u:Option Rat):bt (snap hp bp) [rv u]=some ([rv u],[]):=by cases u <;> rfl
theorem uv (hp:List Blk)(u v:Option Rat):bt (snap hp bp) [rv u,rv v]=some ([rv u,rv v],[]):=by cases u <;> cases v <;> rfl
theorem Il:base.shared 55=false:=by kernel_rfl
theorem VX:base.shared 56=false:=by kernel_rfl
theorem BH:base.shared 49=false:=by kernel_rfl
theorem aef {L:Lst}(hL:bw L 55=fun a=>mM (aK a))(run:ar){u v:Option Rat}{j k:Nat}(hu:Rb j (vv u))(hv:Rb k (vv v))(h:j+k≤1000000):aA L run 55 [rv u,rv v] (rv (some (vv u - vv v))):=fun dr hp =>
 bu Il hL run dr hp _ [rv (some (vv u - vv v))] (uv hp u v) (rO u v) (BN hu hv h)
theorem aad {L:Lst}(hL:bw L 49=fun a=>iq (aK a))(run:ar){u:Option Rat}{j:Nat}(hu:Rb j (vv u))(h:j≤1000000):aA L run 49 [rv u] (Ab.bJ (kV (vv u))):=fun dr hp =>
 bu BH hL run dr hp _ [Ab.bJ (kV (vv u))] (uw hp u) (zk u) (x6 hu h)
end Go.Proofs.YtjdmodeenbdfpaaGreat
namespace Go.Ab
open Go
theorem MT {x:Nat}(h:ll x=true):dv x+48=x:=by rw[dH] at h;unfold dv;omega
theorem Tq {ds:List Nat}(h:eH ds=true):(dvs ds).reverse.map (· + 48)=ds:=by
 rw[dvs,List.reverse_reverse,List.map_map]
 conv=>rhs;rw[← List.map_id ds]
 refine List.map_congr_left fun x hx => ?_
 exact MT (fJ h hx)
theorem ZF {ds:List Nat}(hd:eH ds=true)(h2:∀ a l,ds=a::l→a≠48):T.Top (dvs ds):=by
 intro m a e
 cases ds with
 | nil=>simp[dvs] at e
 | cons b l =>
  rw[wD] at e
  have:=(List.append_inj' e rfl).2
  simp only[List.cons.injEq,and_true] at this
  subst this
  have h3:=dH.1 (fJ hd (List.mem_cons_self))
  have h4:=h2 b l rfl
  unfold dv
  omega
theorem Jm {m:Bool}{ds:List Nat}(hd:eH ds=true)(h0:ds≠[])(h1:m=true→ds≠[48])(h2:∀ a b l,ds=a::b::l→a≠48):(bif m then [45] else [])++ds=ztx (gG m (dec 0 ds)):=by
 rw[← tQ]
 by_cases h:ds=[48]
 ·subst h
  cases m with
  | true=>exact absurd rfl (h1 rfl)
  | false=>rfl
 ·have hh:∀ a l,ds=a::l→a≠48:=by
   intro a l e
   cases l with
   | nil=>rw[e] at h;intro ea;exact h (by rw[ea])
   | cons b l=>exact h2 a b l e
  have ht:=ZF hd hh
  have hne:dvs ds≠[]:=by
   intro e
   have:=congrArg List.length e
   rw[mc] at this
   exact h0 (List.length_eq_zero_iff.1 this)
  have hv:=ht.pn hne
  rw[tC] at hv
  unfold itx
  rw[if_neg hv,← tC,T.jR (GZ hd) ht,Tq hd]
theorem Tt (n:Nat):dtx n≠[]:=by
 intro e
 have:=congrArg List.length e
 unfold dtx at this
 split at this
 ·simp at this
 ·rename_i h
  have h2:=T.cU.2 h
  rw[List.length_map,List.length_reverse,List.length_nil] at this
  omega
theorem Tu {n:Nat}{a:Nat}{l:List Nat}(h:dtx n=a::l)(hn:n≠0):a≠48:=by
 unfold dtx at h
 rw[if_neg hn] at h
 have ht:=T.jk n
 have e:T.aG n=l.reverse.map (· - 48)++[a - 48]:=by
  have h3:=congrArg (fun x=>(x.map (· - 48)).reverse) h
  simp only[List.map_map,List.reverse_cons,List.map_cons] at h3
  have h4:((fun x=>x - 48) ∘ fun x=>x+48)=(id:Nat→Nat):=by funext x;simp
  rw[h4,List.map_id,List.reverse_reverse] at h3
  rw[h3,List.map_reverse]
 have h5:=ht _ _ e
 omega
theorem Ts {n:Nat}(h:dtx n=[48]):n=0:=by
 by_cases hn:n=0
 ·exact hn
 ·exact absurd rfl (Tu h hn)
theorem qe {n a b:Nat}{l:List Nat}(h:dtx n=a::b::l):a≠48:=by
 by_cases hn:n=0
 ·subst hn;simp[dtx] at h
 ·exact Tu h hn
theorem ZH {n m:Nat}(h:dtx n=dtx m):n=m:=by rw[← oe n,← oe m,h]
theorem pe {x y:Int}(h:ztx x=ztx y):x=y:=by
 obtain⟨m,h1,rfl⟩:=mJ x
 obtain⟨k,h2,rfl⟩:=mJ y
 rw[h,h2] at h1
 simp only[Option.some.injEq,Prod.mk.injEq] at h1
 have h3:=ZH h1.2
 rw[← ia x,← ia y,h1.1,h3]
theorem IP {z:Int}(h:bx z=true):dtx z.natAbs≠[48]:=by
 intro e
 have:=Ts e
 rw[cN] at h
 simp at h
 omega
theorem Gx {l m:List Nat}(hl:Bok l)(hm:Bok m)(h:tx l=tx m):l=m:=by
 rw[← jX hl,← jX hm,h]
end Go.Ab
