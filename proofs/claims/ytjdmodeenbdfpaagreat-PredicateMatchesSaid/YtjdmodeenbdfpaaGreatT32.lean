/- Contracts of numbers kept as digits in text, part 32 of the proof; each lemma states its own conditions. -/
import Derived.Test.YtjdmodeenbdfpaaGreatT31
import Derived.Test.YtjdmodeenbdfpaaGreatT25
import Derived.Test.YtjdmodeenbdfpaaGreatT30
import Derived.Test.YtjdmodeenbdfpaaGreatT24
set_option linter.unusedSimpArgs false
set_option linter.unusedVariables false
namespace Go.Proofs.YtjdmodeenbdfpaaGreat
open Go Go.Ab List Tryz
theorem abX (run:ar)(x y:Int)(hx:Zm x)(hy:Zm y):au LT9 run 69 [zs x,zs y] (Ab.bz (fO x y)):=fun dr hp =>
 bw C9 aah run dr hp _ [Ab.bz (fO x y)] rfl rfl (by simp only[mG,cQ x hx,cQ y hy])
theorem abW (run:ar)(x y:Int)(hx:Zm x)(hy:Zm y):au LT9 run 112 [zs x,zs y] (zs ((Nat.gcd x.natAbs y.natAbs:Nat):Int)):=fun dr hp =>
 bw C7 aag run dr hp _ [zs ((Nat.gcd x.natAbs y.natAbs:Nat):Int)] rfl rfl (by simp only[um,cQ x hx,cQ y hy])
theorem KZ (run:ar)(x y:Int)(hx:Zm x)(hy:Zm y)(h0:0<y):au LT9 run 121 [zs x,zs y] (.tup [zs (x / y),zs (x % y)]):=fun dr hp =>
 bw C4 aae run dr hp _ [zs (x / y),zs (x % y)] rfl rfl (by simp only[uh,cQ x hx,cQ y hy,decide_eq_true h0,cond_true])
theorem zQ (run:ar)(k:Nat)(fr:List PV)(n d:Int)(hn:Zm n)(hd:Zm d)(hd0:0<d)(h37:fr.length=37)(h0:nth fr 0=zs n)(h1:nth fr 1=zs d) :
  ∃ st,af (CC LT9) run k (ah 2 kU) ⟨fr,[],[]⟩=some (.ret,st)∧aU TT st.fr st.hp f67.results.toList=some [qs (n / (Nat.gcd n.natAbs d.natAbs:Nat)) (d / (Nat.gcd n.natAbs d.natAbs:Nat))]:=by
 have hgp:0<Nat.gcd n.natAbs d.natAbs:=Nat.gcd_pos_of_pos_right _ (by omega)
 have hgd:Nat.gcd n.natAbs d.natAbs≤d.natAbs:=Nat.gcd_le_right _ (by omega)
 have hg:=abW run n d hn hd
 have hgz:Zm ((Nat.gcd n.natAbs d.natAbs:Nat):Int):=Zm.ah8 (Zm.abs hd) hgd
 have hv:=aa9 ((Nat.gcd n.natAbs d.natAbs:Nat):Int)
 generalize Nat.gcd n.natAbs d.natAbs=g at *
 have hn1:(ztx n).length≤3000000:=hn
 have hd1:(ztx d).length≤3000000:=hd
 by_cases h:(g:Int)=1
 ·rw[decide_eq_true h] at hv
  obtain⟨f1,a1,a2,a3,a4⟩:=Su LT9 run k fr _ _ _ hv hg h37 h0 h1
  obtain⟨st,x1,x2⟩:=zT LT9 run k f1 n d (by omega) (by omega) a2 a3 a4
  refine⟨st,by rw[aO 2 a1];exact x1,?_⟩
  rw[x2,h,Int.ediv_one,Int.ediv_one]
 ·rw[decide_eq_false h] at hv
  have hg0:(0:Int)<(g:Int):=by omega
  have b:∀ z:Int,(ztx z).length≤3000000→(ztx (z / (g:Int))).length≤4000000:=by
   intro z hz
   rw[gN] at hz ⊢
   have:=oJ (x:=z / (g:Int)) (y:=z) (by
    rcases Int.lt_or_le z 0 with h1 | h1
    ·have h2:z≤z / (g:Int):=by
      rw[Int.le_ediv_iff_mul_le hg0]
      have:(g:Int) ≥ 1:=by omega
      have:=Int.mul_le_mul_of_nonpos_left (a:=z) (b:=(g:Int)) (c:=1) (by omega) (by omega)
      omega
     have h3:z / (g:Int)≤0:=by
      rcases Int.lt_or_le 0 (z / (g:Int)) with h | h
      ·have:=(Int.le_ediv_iff_mul_le hg0).1 (show 1≤z / (g:Int) from h)
       omega
      ·exact h
     omega
    ·have h2:z / (g:Int)≤z:=Int.ediv_le_self _ h1
     have h3:0≤z / (g:Int):=Int.ediv_nonneg h1 (by omega)
     omega)
   cases bA (z / (g:Int)) <;> simp <;> omega
  obtain⟨f1,a1,a2,a3,a4⟩:=Nq LT9 run k fr _ _ _ _ _ _ _ hv hg (KZ run n g hn hgz hg0) (KZ run d g hd hgz hg0) h37 h0 h1
  obtain⟨st,x1,x2⟩:=zT LT9 run k f1 (n / (g:Int)) (d / (g:Int)) (b n hn1) (b d hd1) a2 a3 a4
  exact⟨st,by rw[aO 2 a1];exact x1,x2⟩
def qQ (n d:Int):Int:=n / (Nat.gcd n.natAbs d.natAbs:Nat)
def pN (n d:Int):Int:=d / (Nat.gcd n.natAbs d.natAbs:Nat)
def zU:List PV→Option (List PV)
 | [p,q]=>match fT p,fT q with
  | some n,some d=>bif decide (0<d) then some [qs (qQ n d) (pN n d)] else
    bif decide (d<0) && ((eH n).blt fX && (eH d).blt fX) then some [qs (qQ (-n) (-d)) (pN (-n) (-d))] else none
  | _,_=>none
 | _=>none
theorem zS:Ab.Spec base.P 67 zU:=Ab.Spec.bM (C:=CC LT9) (cP XC) fun args rs h=>by
 unfold zU at h
 split at h
 ·split at h
  ·rename_i n d ex ey
   obtain⟨rfl,hn⟩:=dx ex
   obtain⟨rfl,hd⟩:=dx ey
   have h00:Zm 0:=by unfold Zm;decide
   have gc:=abX (runK (CC LT9) 1) d 0 hd h00
   by_cases hp:0<d
   ·rw[decide_eq_true hp] at h
    simp only[cond_true,OiE] at h
    subst h
    obtain⟨f1,a1,a2,a3,a4⟩:=Ss LT9 (runK (CC LT9) 1) 1 (tx (ztx n)) (tx (ztx d)) _ (by unfold fO;rw[if_neg (by omega),if_neg (by omega)];omega) gc
    obtain⟨st,x1,x2⟩:=zQ (runK (CC LT9) 1) 1 f1 n d hn hd hp a2 a3 a4
    have hx:af (CC LT9) (runK (CC LT9) 1) 1 kU ⟨entry 37 [zs n,zs d],[],[]⟩=some (.ret,st):=(aO 2 a1).trans x1
    exact⟨2,_,_,_,_,_,aP yC rfl hx x2,rfl,Wk.refl rfl,trivial⟩
   ·rw[decide_eq_false hp] at h
    simp only[cond_false] at h
    by_cases hng:d<0
    ·rw[decide_eq_true hng,Bool.true_and] at h
     cases hb:(eH n).blt fX && (eH d).blt fX with
     | false=>rw[hb] at h;cases h
     | true =>
      rw[hb] at h
      simp only[cond_true,OiE] at h
      subst h
      simp only[Bool.and_eq_true,Nat.blt_eq] at hb
      obtain⟨f1,a1,a2,a3,a4⟩:=Sv LT9 (runK (CC LT9) 1) 1 (tx (ztx n)) (tx (ztx d)) _ _ _ (by unfold fO;rw[if_pos hng];omega) gc (BV _ n hn) (BV _ d hd)
      obtain⟨st,x1,x2⟩:=zQ (runK (CC LT9) 1) 1 f1 (-n) (-d) (Zm.neg hn hb.1) (Zm.neg hd hb.2) (by omega) a2 a3 a4
      have hx:af (CC LT9) (runK (CC LT9) 1) 1 kU ⟨entry 37 [zs n,zs d],[],[]⟩=some (.ret,st):=(aO 2 a1).trans x1
      exact⟨2,_,_,_,_,_,aP yC rfl hx x2,rfl,Wk.refl rfl,trivial⟩
    ·rw[decide_eq_false hng] at h
     cases h
  ·cases h
 ·cases h
def pG:PV→Option (Int × Int)
 | .sc (.string s)=>match fT (.sc (.string (tx (spl (bys s)).1))),fT (.sc (.string (tx (spl (bys s)).2.1))) with
  | some n,some d=>bif decide (bys s=qtx n d) && decide (0<d) then some (n,d) else none
  | _,_=>none
 | _=>none
theorem kH {p:PV}{n d:Int}(h:pG p=some (n,d)):p=qs n d∧Zm n∧Zm d∧0<d:=by
 unfold pG at h
 split at h
 ·rename_i s
  split at h
  ·rename_i n' d' e1 e2
   cases hb:decide (bys s=qtx n' d') && decide (0<d') with
   | false=>rw[hb] at h;cases h
   | true =>
    rw[hb] at h
    simp only[cond_true,OiE,PiE] at h
    obtain⟨rfl,rfl⟩:=h
    simp only[Bool.and_eq_true,decide_eq_true_eq] at hb
    refine⟨?_,(dx e1).2,(dx e2).2,hb.2⟩
    rw[qs,← hb.1,iO]
  ·cases h
 ·cases h
theorem Ww {n d:Int}(hn:Zm n)(hd:Zm d)(h0:0<d):pG (qs n d)=some (n,d):=by
 have e1:fT (.sc (.string (tx (ztx n))))=some n:=cQ n hn
 have e2:fT (.sc (.string (tx (ztx d))))=some d:=cQ d hd
 simp only[pG,qs,jZ (HO n d),Bf,e1,e2,decide_eq_true h0,decide_true,Bool.and_self,cond_true]
def nN:List PV→Option (List PV)
 | [p]=>match pG p with
  | some (n,d)=>some [qs (-n) d]
  | none=>none
 | _=>none
theorem pO:Ab.Spec base.P 122 nN:=Ab.Spec.bM (C:=CC LT9) (cP XC) fun args rs h=>by
 unfold nN at h
 split at h
 ·split at h
  ·rename_i n d e
   obtain⟨rfl,hn,hd,h0⟩:=kH e
   simp only[OiE] at h
   subst h
   have h1:(ztx n).length≤3000000:=hn
   have h2:(ztx d).length≤3000000:=hd
   have h3:(ztx (-n)).length≤4000000:=by
    rw[gN] at h1 ⊢
    rw[Ct]
    cases bA (-n) <;> simp <;> omega
   obtain⟨st,x1,x2⟩:=Hi LT9 (runK (CC LT9) 1) 1 n d (-n) h3 (by omega) (af5 _ n d hn hd) (BV _ n hn)
   exact⟨2,_,_,_,_,_,aP Jm rfl x1 x2,rfl,Wk.refl rfl,trivial⟩
  ·cases h
 ·cases h
noncomputable def oE:Lst:=[(65,kT),(68,tZ),(66,iV),(69,mG),(67,zU),(122,nN)]
theorem LG:dw base.P oE:=⟨oW,zY,nP,pQ,zS,pO,trivial⟩
theorem aau:bu oE 65=fun a=>kT (aJ a):=rfl
theorem aat:bu oE 68=fun a=>tZ (aJ a):=rfl
theorem aav:bu oE 66=fun a=>iV (aJ a):=rfl
theorem TR:bu oE 67=fun a=>zU (aJ a):=rfl
theorem pa (run:ar)(n d:Int)(hn:Zm n)(hd:Zm d):au oE run 65 [qs n d] (.tup [zs n,zs d,.sc (.bool (!decide (d=1)))]):=fun dr hp =>
 bw ko aau run dr hp _ [zs n,zs d,.sc (.bool (!decide (d=1)))] rfl rfl (Gn n d hn hd)
theorem rD (run:ar)(x y:Int)(hx:Zm x)(hy:Zm y):au oE run 68 [zs x,zs y] (zs (x*y)):=fun dr hp =>
 bw wA aat run dr hp _ [zs (x*y)] rfl rfl (by simp only[tZ,cQ x hx,cQ y hy])
theorem EV (run:ar)(n d:Int)(hn:Zm n)(hd:Zm d)(h0:0<d):au oE run 67 [zs n,zs d] (qs (qQ n d) (pN n d)):=fun dr hp =>
 bw Q0 TR run dr hp _ [qs (qQ n d) (pN n d)] rfl rfl (by simp only[zU,cQ n hn,cQ d hd,decide_eq_true h0,cond_true])
theorem No (L:Lst)(run:ar)(k:Nat)(s t a b c d e f r:ByteArray)(u v:Bool)(g1:au L run 65 [.sc (.string s)] (.tup [.sc (.string a),.sc (.string b),.sc (.bool u)]))(g2:au L run 65 [.sc (.string t)] (.tup [.sc (.string c),.sc (.string d),.sc (.bool v)]))
  (g3:au L run 68 [.sc (.string a),.sc (.string c)] (.sc (.string e))) (g4:au L run 68 [.sc (.string b),.sc (.string d)] (.sc (.string f))) (g5:au L run 67 [.sc (.string e),.sc (.string f)] (.sc (.string r))) :
  ∃ st,af (CC L) run k (f34.body.getD .skip) ⟨entry 30 [.sc (.string s),.sc (.string t)],[],[]⟩=some (.ret,st)∧aU TT st.fr st.hp f34.results.toList=some [.sc (.string r)]:=by
 obtain⟨e1,e2,e3⟩:=cn 28 (.sc (.string s)) (.sc (.string t))
 generalize entry 30 [.sc (.string s),.sc (.string t)]=fr0 at *
 unfold au at *
 simp[f34,e1,e2,e3,af,aH,ao,aq,aG,ag,ai,aL,an,aj,aF,aA,FzZ,az,aa,ae,ab,g1,g2,g3,g4,g5,aU]
def zmB (z:Int):Bool:=(ztx z).length.ble fX
theorem sf {z:Int}(h:zmB z=true):Zm z:=by unfold zmB at h;rw[Nat.ble_eq] at h;exact h
def wU:List PV→Option (List PV)
 | [p,q]=>match pG p,pG q with
  | some (n,d),some (m,k)=>bif zmB (n*m) && zmB (d*k) then some [qs (qQ (n*m) (d*k)) (pN (n*m) (d*k))] else none
  | _,_=>none
 | _=>none
theorem zO:Ab.Spec base.P 34 wU:=Ab.Spec.bM (C:=CC oE) (cP LG) fun args rs h=>by
 unfold wU at h
 split at h
 ·split at h
  ·rename_i n d m k ex ey
   obtain⟨rfl,hn,hd,hd0⟩:=kH ex
   obtain⟨rfl,hm,hk,hk0⟩:=kH ey
   cases hb:zmB (n*m) && zmB (d*k) with
   | false=>rw[hb] at h;cases h
   | true =>
    rw[hb] at h
    simp only[cond_true,OiE] at h
    subst h
    simp only[Bool.and_eq_true] at hb
    obtain⟨st,x1,x2⟩:=No oE (runK (CC oE) 1) 1 _ _ _ _ _ _ _ _ _ _ _ (pa _ n d hn hd) (pa _ m k hm hk) (rD _ n m hn hm) (rD _ d k hd hk) (EV _ _ _ (sf hb.1) (sf hb.2) (Int.mul_pos hd0 hk0))
    exact⟨2,_,_,_,_,_,aP Cj rfl x1 x2,rfl,Wk.refl rfl,trivial⟩
  ·cases h
 ·cases h
theorem Lc (run:ar)(x y:Int)(hx:Zm x)(hy:Zm y):au oE run 66 [zs x,zs y] (zs (x+y)):=fun dr hp =>
 bw ss aav run dr hp _ [zs (x+y)] rfl rfl (by simp only[iV,cQ x hx,cQ y hy])
theorem Hh (L:Lst)(run:ar)(k:Nat)(s t a b c d r:ByteArray)(u v:Bool)(hb:eD .eql b { data:=#[49] } = some (.bool true))(hd:eD .eql d { data:=#[49] } = some (.bool true))(g1:au L run 65 [.sc (.string s)] (.tup [.sc (.string a),.sc (.string b),.sc (.bool u)]))(g2:au L run 65 [.sc (.string t)] (.tup [.sc (.string c),.sc (.string d),.sc (.bool v)]))
  (g3:au L run 66 [.sc (.string a),.sc (.string c)] (.sc (.string r))) :
  ∃ st,af (CC L) run k (f24.body.getD .skip) ⟨entry 43 [.sc (.string s),.sc (.string t)],[],[]⟩=some (.ret,st)∧aU TT st.fr st.hp f24.results.toList=some [.sc (.string r)]:=by
 obtain⟨e1,e2,e3⟩:=cn 41 (.sc (.string s)) (.sc (.string t))
 generalize entry 43 [.sc (.string s),.sc (.string t)]=fr0 at *
 unfold au at *
 simp[f24,e1,e2,e3,af,aH,ao,aq,aG,ag,ai,aL,an,aj,aF,aA,FzZ,bc,az,aa,ae,ab,g1,g2,g3,hb,hd,aU]
theorem Hg (L:Lst)(run:ar)(k:Nat)(s t a b c d e f g h r:ByteArray)(u v w1 w2:Bool)(hw:(w1 && w2)=false)(hb:eD .eql b { data:=#[49] } = some (.bool w1))(hd:eD .eql d { data:=#[49] } = some (.bool w2))(g1:au L run 65 [.sc (.string s)] (.tup [.sc (.string a),.sc (.string b),.sc (.bool u)]))(g2:au L run 65 [.sc (.string t)] (.tup [.sc (.string c),.sc (.string d),.sc (.bool v)]))
  (g3:au L run 68 [.sc (.string a),.sc (.string d)] (.sc (.string e))) (g4:au L run 68 [.sc (.string c),.sc (.string b)] (.sc (.string f))) (g5:au L run 66 [.sc (.string e),.sc (.string f)] (.sc (.string g))) (g6:au L run 68 [.sc (.string b),.sc (.string d)] (.sc (.string h))) (g7:au L run 67 [.sc (.string g),.sc (.string h)] (.sc (.string r))) :
  ∃ st,af (CC L) run k (f24.body.getD .skip) ⟨entry 43 [.sc (.string s),.sc (.string t)],[],[]⟩=some (.ret,st)∧aU TT st.fr st.hp f24.results.toList=some [.sc (.string r)]:=by
 obtain⟨e1,e2,e3⟩:=cn 41 (.sc (.string s)) (.sc (.string t))
 generalize entry 43 [.sc (.string s),.sc (.string t)]=fr0 at *
 unfold au at *
 cases w1 <;> cases w2 <;> simp only[Bool.and_true,Bool.and_false,Bool.and_self,Bool.true_eq_false] at hw <;> simp[f24,e1,e2,e3,af,aH,ao,aq,aG,ag,ai,aL,an,aj,aF,aA,FzZ,bc,az,aa,ae,ab,g1,g2,g3,g4,g5,g6,g7,hb,hd,undef,aU]
def tU:List PV→Option (List PV)
 | [p,q]=>match pG p,pG q with
  | some (n,d),some (m,k)=>bif decide (d=1) && decide (k=1) then some [qs (n+m) 1] else
    bif zmB (n*k) && (zmB (m*d) && (zmB (n*k+m*d) && zmB (d*k))) then some [qs (qQ (n*k+m*d) (d*k)) (pN (n*k+m*d) (d*k))] else none
  | _,_=>none
 | _=>none
theorem sJ:Ab.Spec base.P 24 tU:=Ab.Spec.bM (C:=CC oE) (cP LG) fun args rs h=>by
 unfold tU at h
 split at h
 ·split at h
  ·rename_i n d m k ex ey
   obtain⟨rfl,hn,hd,hd0⟩:=kH ex
   obtain⟨rfl,hm,hk,hk0⟩:=kH ey
   cases hw:decide (d=1) && decide (k=1) with
   | true =>
    rw[hw] at h
    simp only[cond_true,OiE] at h
    subst h
    simp only[Bool.and_eq_true,decide_eq_true_eq] at hw
    obtain⟨rfl,rfl⟩:=hw
    obtain⟨st,x1,x2⟩:=Hh oE (runK (CC oE) 1) 1 _ _ _ _ _ _ _ _ _ (jy 1) (jy 1) (pa _ n 1 hn hd) (pa _ m 1 hm hk) (Lc _ n m hn hm)
    exact⟨2,_,_,_,_,_,aP uP rfl x1 x2,rfl,Wk.refl rfl,trivial⟩
   | false =>
    rw[hw] at h
    simp only[cond_false] at h
    cases hb:zmB (n*k) && (zmB (m*d) && (zmB (n*k+m*d) && zmB (d*k))) with
    | false=>rw[hb] at h;cases h
    | true =>
     rw[hb] at h
     simp only[cond_true,OiE] at h
     subst h
     simp only[Bool.and_eq_true] at hb
     obtain⟨b1,b2,b3,b4⟩:=hb
     obtain⟨st,x1,x2⟩:=Hg oE (runK (CC oE) 1) 1 _ _ _ _ _ _ _ _ _ _ _ _ _ _ _ hw (jy d) (jy k) (pa _ n d hn hd) (pa _ m k hm hk) (rD _ n k hn hk) (rD _ m d hm hd) (Lc _ _ _ (sf b1) (sf b2)) (rD _ d k hd hk) (EV _ _ _ (sf b3) (sf b4) (Int.mul_pos hd0 hk0))
     exact⟨2,_,_,_,_,_,aP uP rfl x1 x2,rfl,Wk.refl rfl,trivial⟩
  ·cases h
 ·cases h
end Go.Proofs.YtjdmodeenbdfpaaGreat
namespace Go.Ab
open Go List
noncomputable def ctr {α:Type}(e:α→List PV)(ok:α→Prop)(f:α→List PV)(a:List PV):Option (List PV) :=
 @dite _ (∃ x,ok x∧e x=a) (Classical.propDecidable _) (fun h=>some (f h.choose)) (fun _=>none)
theorem cN {α:Type}{e:α→List PV}{ok:α→Prop}{f:α→List PV}{a r:List PV}(h:ctr e ok f a=some r):∃ x,ok x∧e x=a∧f x=r:=by
 unfold ctr at h
 split at h
 ·rename_i hx
  exact⟨hx.choose,hx.choose_spec.1,hx.choose_spec.2,by simpa using h⟩
 ·cases h
theorem jn {α:Type}{e:α→List PV}{ok:α→Prop}{f:α→List PV}(inj:∀ x y,ok x→ok y→e x=e y→f x=f y){x:α}(hx:ok x):ctr e ok f (e x)=some (f x):=by
 have h:∃ y,ok y∧e y=e x:=⟨x,hx,rfl⟩
 unfold ctr
 rw[dif_pos h,inj _ x h.choose_spec.1 hx h.choose_spec.2]
structure El {α:Type} (s:Nat) (e:α→List PV):Prop where
 len:∀ a,(e a).length=s
 okc:∀ a,bh (e a)=true
 idf:∀ a,bU (e a)=true
 sn:∀ hp d a,bq (snap hp (d+1)) (e a)=some (e a,[])
structure Ec {α:Type} (s:Nat) (e:α→List PV):Prop extends El s e where
 can:∀ a,aJ (e a)=e a
theorem Sc1.ec {α:Type}{e:α→PV}(h:Sc1 e):Ec 1 fun a=>[e a] where
 len:=fun _=>rfl
 okc:=fun a=>by simp only[bh,h.okc,Bool.and_self]
 can:=fun a=>by simp only[Ab.aJ,h.canon]
 idf:=fun a=>by simp only[bU,h.idf,Bool.and_self]
 sn:=fun hp d a=>by
  have:=h.CU hp d [a]
  simpa using this
theorem nW:∀ (a b:List PV),bh (a++b)=(bh a && bh b)
 | [],b=>rfl
 | x::a,b=>by simp only[cons_append,bh,nW a b,Bool.and_assoc]
theorem lH:∀ (a b:List PV),aJ (a++b)=aJ a++aJ b
 | [],b=>by simp[aJ]
 | x::a,b=>by simp only[cons_append,aJ,lH a b]
theorem lC {f:PV→Option (PV × List Nat)} : ∀ {a b a' b':List PV} {i j:List Nat},bq f a=some (a',i)→bq f b=some (b',j)→bq f (a++b)=some (a'++b',i++j)
 | [],b,a',b',i,j,h1,h2=>by
  simp only[bq,OiE,PiE] at h1
  obtain⟨rfl,rfl⟩:=h1
  simpa using h2
 | x::a,b,a',b',i,j,h1,h2=>by
  simp only[bq] at h1
  cases hx:f x with
  | none=>rw[hx] at h1;cases h1
  | some y =>
   rw[hx] at h1
   simp only at h1
   cases ha:bq f a with
   | none=>rw[ha] at h1;cases h1
   | some z =>
    rw[ha] at h1
    simp only[OiE,PiE] at h1
    obtain⟨rfl,rfl⟩:=h1
    simp only[cons_append,bq,hx,lC ha h2,append_assoc]
def fg {α:Type}(e:α→List PV)(l:List α):PV:=.imm l.length false (l.flatMap e)
section
variable {α:Type} {s:Nat} {e:α→List PV}
theorem El.length (h:El s e)(l:List α):(l.flatMap e).length=l.length*s:=by
 induction l with
 | nil=>simp
 | cons a l ih=>rw[flatMap_cons,length_append,h.len,ih,length_cons,Nat.succ_mul];omega
theorem El.yR (h:El s e):∀ l:List α,bh (l.flatMap e)=true
 | []=>rfl
 | a::l=>by rw[flatMap_cons,nW,h.okc,h.yR l];rfl
theorem Ec.aiV (h:Ec s e):∀ l:List α,aJ (l.flatMap e)=l.flatMap e
 | []=>rfl
 | a::l=>by rw[flatMap_cons,lH,h.can,h.aiV l]
theorem El.sns (h:El s e)(hp:List Blk)(d:Nat):∀ l:List α,bq (snap hp (d+1)) (l.flatMap e)=some (l.flatMap e,[])
 | []=>rfl
 | a::l=>lC (h.sn hp d a) (h.sns hp d l)
theorem Ec.WZ (h:Ec s e)(n:Nat)(x:Bool)(l:List α)(hl:l.length=n):canon (.imm n x (l.flatMap e))=fg e l:=by
 rw[canon,h.aiV,fg,hl]
theorem Ec.B8 (h:Ec s e)(l:List α):canon (fg e l)=fg e l:=h.WZ _ _ l rfl
theorem Ec.list (h:Ec s e):Ec 1 fun l:List α=>[fg e l] where
 len:=fun _=>rfl
 okc:=fun _=>rfl
 can:=fun l=>by simp only[aJ,h.B8]
 idf:=fun l=>by simp only[fg,bU,PV.cO,Bool.and_self]
 sn:=fun _ _ _=>rfl
theorem V3 (h:El s e):∀ (l:List α) (i:Nat),i≤l.length→br (l.flatMap e) (i*s)=(l.drop i).flatMap e
 | l,0,_=>by rw[Nat.zero_mul,cA,drop_zero,drop_zero]
 | [],i+1,hi=>by simp at hi
 | a::l,i+1,hi=>by
  rw[cA,flatMap_cons]
  have:(i+1)*s=(e a).length+i*s:=by rw[h.len,Nat.succ_mul];omega
  rw[this,← drop_drop,drop_left,← cA,V3 h l i (by simpa using hi),drop_succ_cons]
theorem lh (h:El s e)(l:List α)(i:Nat)(hi:i<l.length):br (l.flatMap e) (i*s)=e l[i]++(l.drop (i+1)).flatMap e:=by
 rw[V3 h l i (by omega),drop_eq_getElem_cons hi,flatMap_cons]
theorem si (h:El s e)(l m:List α):bF ((l++m).flatMap e) (l.length*s)=some (l.flatMap e):=by
 rw[dh (by rw[h.length,length_append,Nat.add_mul];omega),flatMap_append,← h.length l,take_left]
theorem xD:∀ (a b c:List PV),a.length=b.length→cq (a++c) 0 b=some (b++c)
 | [],[],c,_=>by cases c <;> rfl
 | x::a,y::b,c,h=>by simp only[cons_append,cq,xD a b c (by simpa using h)]
 | [],_::_,_,h=>by simp at h
 | _::_,[],_,h=>by simp at h
theorem Ao:∀ (a c v r:List PV) (n:Nat),cq c n v=some r→cq (a++c) (a.length+n) v=some (a++r)
 | [],c,v,r,n,h=>by simpa using h
 | x::a,c,v,r,n,h=>by
  have:(x::a).length+n=(a.length+n)+1:=by simp;omega
  rw[this,cons_append,cq,Ao a c v r n h,cons_append]
def fe (s:Nat)(e:α→List PV)(b:Nat)(hp:List Blk)(l:List α)(p:PV):Prop :=
 b≤hp.length∧((l=[]∧p = .sc (.slice none 0 0))∨∃ id m x,b≤id∧id<hp.length∧p = .own id s 0 l.length x∧(x=true→m=[])∧aY hp id=some ⟨.live,(l++m).flatMap e⟩)
theorem fe.nil {b:Nat}{hp:List Blk}(h:b≤hp.length):fe s e b hp [] (.sc (.slice none 0 0)):=⟨h,.inl ⟨rfl,rfl⟩⟩
theorem fe.len {b:Nat}{hp:List Blk}{l:List α}{p:PV}(h:fe s e b hp l p):dn p=some l.length:=by
 rcases h.2 with ⟨rfl,rfl⟩| ⟨id,m,x,_,_,rfl,_,h⟩ <;> rfl
theorem fe.cells {b:Nat}{hp:List Blk}{l:List α}{p:PV}(h:fe s e b hp l p):p.cells?=some [p]:=by
 rcases h.2 with ⟨rfl,rfl⟩| ⟨id,m,x,_,_,rfl,_,h⟩ <;> rfl
theorem fe.okc {b:Nat}{hp:List Blk}{l:List α}{p:PV}(h:fe s e b hp l p):dk p=true:=by
 rcases h.2 with ⟨rfl,rfl⟩| ⟨id,m,x,_,_,rfl,_,h⟩ <;> rfl
theorem fe.app (he:El s e){b:Nat}{hp:List Blk}{l:List α}{p:PV}(h:fe s e b hp l p)(ns:List α)(h0:ns≠[])(hl:l.length+ns.length<1000000000) :
  ∃ p' hp' fp,cJ hp s p ns.length (ns.flatMap e)=some (p',hp',fp)∧fe s e b hp' (l++ns) p'∧(∀ i,i<b→aY hp' i=aY hp i)∧hp.length≤hp'.length:=by
 obtain⟨hb,h⟩:=h
 have hn:ns.length≠0:=by simpa using h0
 have hml : ¬ (cS<ns.length):=by unfold cS;omega
 have hml2:l.length+ns.length≤cS:=by unfold cS;omega
 rcases h with ⟨rfl,rfl⟩| ⟨id,m,x,hid,hid2,rfl,hx,h⟩
 ·refine⟨.own hp.length s 0 ns.length false,aM hp (ns.flatMap e),⟨[],[hp.length],true,false⟩,?_,⟨by simp[aM];omega,.inr ⟨hp.length,[],false,hb,by simp[aM],by simp,nofun,?_⟩⟩,fun i hi => ?_,by simp[aM]⟩
  ·simp only[cJ]
   rw[if_neg hn,if_pos (by omega)]
  ·rw[bK,if_pos rfl];simp
  ·rw[bK,if_neg (by omega)]
 ·have ht:bF (br ((l++m).flatMap e) 0) (l.length*s)=some (l.flatMap e):=by
   rw[cA,drop_zero,si (s:=s) he]
  cases x with
  | true =>
   refine⟨.own hp.length s 0 (l.length+ns.length) false,aM hp (l.flatMap e++ns.flatMap e),⟨[id],[hp.length],true,false⟩,?_,⟨by simp[aM];omega,.inr ⟨hp.length,[],false,hb,by simp[aM],by simp,nofun,?_⟩⟩,fun i hi => ?_,by simp[aM]⟩
   ·simp only[cJ,h,ht]
    rw[if_neg (by simp),if_neg hn,if_neg (by simp),if_pos hml2]
   ·rw[bK,if_pos rfl];simp
   ·rw[bK,if_neg (by omega)]
  | false =>
   refine⟨.own hp.length s 0 (l.length+ns.length) false,aM (bZ hp id ⟨.dead,[]⟩) (l.flatMap e++ns.flatMap e),⟨[],[id,hp.length],true,false⟩,?_,⟨by simp[aM,bL];omega,.inr ⟨hp.length,[],false,hb,by simp[aM,bL],by simp,nofun,?_⟩⟩,fun i hi => ?_,by simp[aM,bL]⟩
   ·simp only[cJ,h,ht]
    rw[if_neg (by simp),if_pos hml2]
   ·rw[bK,bL,if_pos rfl];simp
   ·rw[bK,bL,if_neg (by omega),cT h,if_neg (by omega)]
theorem fe.snap (he:Ec s e){b:Nat}{hp:List Blk}{l:List α}{p:PV}(h:fe s e b hp l p):∃ q ids,(∀ d,Ab.snap hp (d+2) p=some (q,ids))∧Wk q (fg e l)∧Ab.canon q=fg e l∧(∀ i,i<b→aY (roB hp ids) i=aY hp i)∧∀ i ∈ ids,b≤i:=by
 obtain⟨hb,h⟩:=h
 rcases h with ⟨rfl,rfl⟩| ⟨id,m,x,hid,_,rfl,_,h⟩
 ·exact⟨.sc (.slice none 0 0),[],fun _=>rfl,Wk.nil false,rfl,fun _ _=>rfl,by simp⟩
 ·have ht:bF (br ((l++m).flatMap e) 0) (l.length*s)=some (l.flatMap e):=by
   rw[cA,drop_zero,si he.toEl]
  refine⟨.imm l.length x (l.flatMap e),[id],fun d => ?_,?_,he.WZ _ x l rfl,fun i hi=>Br hp id i (by omega),by simpa using hid⟩
  ·rw[Ab.snap]
   simp only[h]
   rw[if_neg (by simp),ht]
   simp only[he.sns hp d l]
  ·cases x
   ·exact Wk.refl (by simp[PV.cO])
   ·exact Wk.imm _ _ _
theorem fe.HW (he:Ec s e){b:Nat}{hp:List Blk}{l:List α}{p:PV}(h:fe s e b hp l p) :
  ∃ rs ids,bq (Ab.snap hp bn) [p]=some (rs,ids)∧WkL rs [fg e l]:=by
 obtain⟨q,ids,h1,h2,-⟩:=h.snap he
 refine⟨[q],ids++[],?_,h2,trivial⟩
 simp only[bn,bq,h1 10]
theorem fe.rd (he:El s e){b:Nat}{hp:List Blk}{l:List α}{p:PV}(h:fe s e b hp l p):∃ ids,ew hp s p=some (l.length,l.flatMap e,ids):=by
 obtain⟨hb,h⟩:=h
 rcases h with ⟨rfl,rfl⟩| ⟨id,m,x,hid,_,rfl,_,h⟩
 ·exact⟨[],rfl⟩
 ·have ht:bF (br ((l++m).flatMap e) 0) (l.length*s)=some (l.flatMap e):=by
   rw[cA,drop_zero,si (s:=s) he]
  refine⟨[id],?_⟩
  simp only[ew,h]
  rw[if_neg (by simp),ht]
end
end Go.Ab
namespace Go.Proofs.YtjdmodeenbdfpaaGreat
open Go Go.Ab List Tryz
def Nb (k:Nat)(z:Int):Prop:=z.natAbs<10 ^ k
def Rb (k:Nat)(x:Rat):Prop:=Nb k x.num∧Nb k x.den
theorem Nb.mono {j k:Nat}{z:Int}(h:Nb j z)(hk:j≤k):Nb k z:=Nat.lt_of_lt_of_le h (Nat.pow_le_pow_right (by omega) hk)
theorem Rb.mono {j k:Nat}{z:Rat}(h:Rb j z)(hk:j≤k):Rb k z:=⟨h.1.mono hk,h.2.mono hk⟩
theorem Nb.sm {k:Nat}{z:Int}(h:Nb k z)(hk:k≤2000000):Sm z:=by
 have h1:z.natAbs<1000000000 ^ (k / 9+1):=by
  refine Nat.lt_of_lt_of_le h ?_
  have:(1000000000:Nat)=10 ^ 9:=by decide
  rw[this,← Nat.pow_mul]
  exact Nat.pow_le_pow_right (by omega) (by omega)
 exact Nat.lt_of_le_of_lt (du h1) (by omega)
theorem Nb.smB {k:Nat}{z:Int}(h:Nb k z)(hk:k≤2000000):smB z=true:=by
 unfold YtjdmodeenbdfpaaGreat.smB
 rw[Nat.blt_eq]
 have hN:0<11000000:=by decide
 have hK:4*k≤11000000:=by omega
 generalize 11000000=N at hN hK ⊢
 by_cases h0:z.natAbs=0
 ·rw[h0];exact hN
 ·rw[Nat.log2_lt h0]
  refine Nat.lt_of_lt_of_le h ?_
  have:(10:Nat) ^ k≤16 ^ k:=Nat.pow_le_pow_left (by omega) k
  refine Nat.le_trans this ?_
  have e:(16:Nat)=2 ^ 4:=by decide
  rw[e,← Nat.pow_mul]
  exact Nat.pow_le_pow_right (by decide) hK
theorem Nb.eH {k:Nat}{z:Int}(h:Nb k z):eH z≤k+1:=by
 unfold Ab.eH
 rw[tk (by omega)]
 exact Nat.lt_of_lt_of_le h (Nat.pow_le_pow_right (by omega) (by omega))
theorem Nb.zm {k:Nat}{z:Int}(h:Nb k z)(hk:k≤2000000):Zm z:=by
 unfold Zm
 rw[gN]
 have:=h.eH
 unfold fX
 cases bA z <;> simp <;> omega
theorem Nb.zmB {k:Nat}{z:Int}(h:Nb k z)(hk:k≤2000000):zmB z=true:=by
 unfold YtjdmodeenbdfpaaGreat.zmB
 rw[Nat.ble_eq]
 exact h.zm hk
theorem Nb.mul {j k:Nat}{x y:Int}(h:Nb j x)(h':Nb k y):Nb (j+k) (x*y):=by
 unfold Nb at *
 rw[Int.natAbs_mul,Nat.pow_add]
 exact Nat.mul_lt_mul'' h h'
theorem Nb.add {k:Nat}{x y:Int}(h:Nb k x)(h':Nb k y):Nb (k+1) (x+y):=by
 unfold Nb at *
 have:=Int.natAbs_add_le x y
 rw[Nat.pow_succ]
 omega
theorem Nb.neg {k:Nat}{x:Int}(h:Nb k x):Nb k (-x):=by unfold Nb at *;rw[Int.natAbs_neg];exact h
theorem Nb.div {k:Nat}{x:Int}(h:Nb k x)(g:Nat):Nb k (x / g):=by
 unfold Nb at *
 refine Nat.lt_of_le_of_lt ?_ h
 exact Int.natAbs_ediv_le_natAbs x g
theorem Nb.den {k:Nat}{x:Rat}(h:Rb k x):Nb k x.den:=h.2
theorem qP (x y:Rat):qQ (x.num*y.den+y.num*x.den) (x.den*y.den)=(x+y).num:=by
 rw[Rat.add_def,Rat.normalize_eq]
 simp only[qQ,Int.natAbs_mul,Int.natAbs_natCast]
theorem qR (x y:Rat):pN (x.num*y.den+y.num*x.den) (x.den*y.den)=((x+y).den:Int):=by
 rw[Rat.add_def,Rat.normalize_eq]
 simp only[pN,Int.natAbs_mul,Int.natAbs_natCast]
 simp
theorem wM (x y:Rat):qQ (x.num*y.num) (x.den*y.den)=(x*y).num:=by
 rw[Rat.mul_def,Rat.normalize_eq]
 simp only[qQ,Int.natAbs_mul,Int.natAbs_natCast]
theorem wN (x y:Rat):pN (x.num*y.num) (x.den*y.den)=((x*y).den:Int):=by
 rw[Rat.mul_def,Rat.normalize_eq]
 simp only[pN,Int.natAbs_mul,Int.natAbs_natCast]
 simp
theorem Rb.mul {j k:Nat}{x y:Rat}(h:Rb j x)(h':Rb k y):Rb (j+k) (x*y):=by
 constructor
 ·rw[← wM];exact (h.1.mul h'.1).div _
 ·rw[← wN];exact (h.2.mul h'.2).div _
theorem Rb.add {j k:Nat}{x y:Rat}(h:Rb j x)(h':Rb k y):Rb (j+k+1) (x+y):=by
 constructor
 ·rw[← qP]
  refine (Nb.add (h.1.mul h'.2) ?_).div _
  rw[Nat.add_comm]
  exact h'.1.mul h.2
 ·rw[← qR];exact ((h.2.mul h'.2).div _).mono (by omega)
theorem Rb.neg {k:Nat}{x:Rat}(h:Rb k x):Rb k (-x):=by
 constructor
 ·rw[Rat.neg_num];exact h.1.neg
 ·rw[Rat.neg_den];exact h.2
theorem Rb.sub {j k:Nat}{x y:Rat}(h:Rb j x)(h':Rb k y):Rb (j+k+1) (x - y):=by
 rw[Rat.sub_eq_add_neg];exact h.add h'.neg
theorem Rb.zero (k:Nat):Rb (k+1) 0:=⟨Nat.pow_pos (by omega),Nat.one_lt_pow (by omega) (by omega)⟩
theorem Rb.one (k:Nat):Rb (k+1) 1:=⟨Nat.one_lt_pow (by omega) (by omega),Nat.one_lt_pow (by omega) (by omega)⟩
def rv:Option Rat→PV
 | none=>cl 0 0
 | some x=>cl x.num x.den
def vv:Option Rat→Rat
 | none=>0
 | some x=>x
theorem Y9 (u:Option Rat):∃ b,rv u=cl (vv u).num b∧dL b=(vv u).den∧(∀ k,Rb (k+1) (vv u)→Nb (k+1) b):=by
 cases u with
 | none=>exact⟨0,rfl,rfl,fun k _=>Nat.pow_pos (by omega)⟩
 | some x =>
  refine⟨x.den,rfl,?_,fun k h=>h.2⟩
  have:=x.den_pos
  unfold dL
  rw[if_neg (by omega)]
  rfl
theorem jG (n d:Int)(h:0<d):kZ n d=qQ n d∧k9 n d=pN n d:=by
 have hg:n.natAbs % Nat.gcd n.natAbs d.natAbs=0:=Nat.mod_eq_zero_of_dvd (Nat.gcd_dvd_left _ _)
 have hg0:0<Nat.gcd n.natAbs d.natAbs:=Nat.gcd_pos_of_pos_right _ (by omega)
 unfold kZ k9 qQ pN
 have hn:bA d=false:=by rw[cR];simp;omega
 rw[hn,cond_false]
 generalize Nat.gcd n.natAbs d.natAbs=g at *
 constructor
 ·obtain⟨q,hq⟩:=Nat.dvd_of_mod_eq_zero hg
  have hq2:n.natAbs / g=q:=by rw[hq];exact Nat.mul_div_cancel_left _ (by omega)
  rw[hq2]
  unfold sgn
  rw[cR]
  have hgq:((g*q:Nat):Int)=(g:Int)*q:=by simp
  by_cases hs:n<0
  ·have h2:n=(g:Int)*(-(q:Int)):=by
    rw[Int.mul_neg,← hgq,← hq];omega
   rw[decide_eq_true hs,cond_true,Int.negOfNat_eq]
   conv=>rhs;rw[h2]
   rw[Int.mul_ediv_cancel_left _ (by omega)]
   rfl
  ·have h2:n=(g:Int)*(q:Int):=by
    rw[← hgq,← hq];omega
   rw[decide_eq_false hs,cond_false]
   conv=>rhs;rw[h2]
   rw[Int.mul_ediv_cancel_left _ (by omega)]
   rfl
 ·obtain⟨m,rfl⟩:=Int.eq_ofNat_of_zero_le (Int.le_of_lt h)
  simp
theorem mw (n d:Int)(h:0<d):(Rat.divInt n d).num=qQ n d∧((Rat.divInt n d).den:Int)=pN n d:=by
 obtain⟨m,rfl⟩:=Int.eq_ofNat_of_zero_le (Int.le_of_lt h)
 rw[Rat.divInt_ofNat,Rat.mkRat_def,dif_neg (by omega),Rat.normalize_eq]
 exact⟨rfl,by simp[pN]⟩
theorem uy (n d:Int)(h:d≠0):kZ n d=(Rat.divInt n d).num∧k9 n d=(Rat.divInt n d).den:=by
 by_cases hd:0<d
 ·rw[(jG n d hd).1,(jG n d hd).2,(mw n d hd).1,(mw n d hd).2];exact⟨rfl,rfl⟩
 ·have e1:kZ n d=kZ (-n) (-d):=by
   have h1:bA d=true:=by rw[cR];simp;omega
   have h2:bA (-d)=false:=by rw[cR];simp;omega
   unfold kZ
   rw[h1,h2,Int.natAbs_neg,Int.natAbs_neg]
   rfl
  have e2:k9 n d=k9 (-n) (-d):=by unfold k9;rw[Int.natAbs_neg,Int.natAbs_neg]
  rw[e1,e2,← Rat.neg_divInt_neg,(jG _ _ (by omega:0 < -d)).1,(jG _ _ (by omega:0 < -d)).2,(mw _ _ (by omega:0 < -d)).1,(mw _ _ (by omega:0 < -d)).2]
  exact⟨rfl,rfl⟩
theorem ye (x y:Rat):x / y=Rat.divInt (x.num*y.den) (x.den*y.num):=by
 rw[Rat.div_def,Rat.inv_def]
 conv=>lhs;rw[← Rat.num_divInt_den x]
 rw[Rat.divInt_mul_divInt]
def Hd (x y:Rat):Int:=if x<y then -1 else if x=y then 0 else 1
theorem Fj (x y:Rat):fO (x.num*y.den) (y.num*x.den)=Hd x y:=by
 unfold fO Hd
 by_cases h:x<y
 ·rw[if_pos h,if_pos ((Rat.lt_iff x y).1 h)]
 ·rw[if_neg h,if_neg (fun e=>h ((Rat.lt_iff x y).2 e))]
  have hi:x.num*y.den=y.num*x.den ↔ x=y:=by
   constructor
   ·intro e
    have h1:x≤y:=(Rat.le_iff x y).2 (Int.le_of_eq e)
    have h2:y≤x:=(Rat.le_iff y x).2 (Int.le_of_eq e.symm)
    exact Rat.le_antisymm h1 h2
   ·intro e;rw[e]
  by_cases h2:x=y
  ·rw[if_pos h2,if_pos (hi.2 h2)]
  ·rw[if_neg h2,if_neg (fun e=>h2 (hi.1 e))]
def gp (x:Rat):Int:=x.num.sign
theorem m9 {u:Option Rat}{k:Nat}(h:Rb k (vv u))(hk:k≤2000000):∃ b,rv u=cl (vv u).num b∧dL b=(vv u).den∧hZ (rv u)=some ((vv u).num,b)∧Nb k b:=by
 obtain⟨b,h1,h2,h3⟩:=Y9 u
 cases u with
 | none =>
  refine⟨0,rfl,rfl,iu (h.1.sm hk) (by unfold Sm;decide),Nat.pow_pos (by omega)⟩
 | some x =>
  have:=x.den_pos
  refine⟨x.den,rfl,?_,iu (h.1.sm hk) (h.2.sm hk),h.2⟩
  unfold dL
  rw[if_neg (by omega)]
  rfl
theorem oQ (x:Rat):rv (some x)=cl x.num x.den:=rfl
theorem IK (x:Rat):(x.den:Int)≠0:=by have:=x.den_pos;omega
theorem Aq (n:Int)(x y:Rat):ra n (x.den*y.den)=true:=by
 have h1:=x.den_pos
 have h2:=y.den_pos
 unfold ra
 rw[Int.natAbs_mul,Int.natAbs_natCast,Int.natAbs_natCast]
 have:x.den*y.den≠0:=Nat.ne_of_gt (Nat.mul_pos h1 h2)
 simp only[Bool.not_eq_true']
 cases e:(x.den*y.den).beq 0 with
 | false=>rfl
 | true=>exact absurd (Nat.eq_of_beq_eq_true e) this
theorem Dv {u v:Option Rat}{j k:Nat}(hu:Rb j (vv u))(hv:Rb k (vv v))(h:j+k≤1000000):jb [rv u,rv v]=some [rv (some (vv u+vv v))]:=by
 obtain⟨b,b1,b2,b3,b4⟩:=m9 hu (by omega)
 obtain⟨d,d1,d2,d3,d4⟩:=m9 hv (by omega)
 have g1:=hu.1.mul hv.2
 have g2:=hv.1.mul hu.2
 rw[Nat.add_comm k j] at g2
 have g3:=hu.2.mul hv.2
 have g4:=Aq ((vv u).num*(vv v).den+(vv v).num*(vv u).den) (vv u) (vv v)
 have hp:(0:Int)<(vv u).den*(vv v).den:=Int.mul_pos (by have:=(vv u).den_pos;omega) (by have:=(vv v).den_pos;omega)
 simp only[jb,b3,d3,b2,d2,g1.smB (by omega),g2.smB (by omega),(g1.add g2).smB (by omega),g3.smB (by omega),g4,Bool.and_self,cond_true,oQ,(jG _ _ hp).1,(jG _ _ hp).2,qP,qR]
theorem RY {u v:Option Rat}{j k:Nat}(hu:Rb j (vv u))(hv:Rb k (vv v))(h:j+k≤1000000):kS [rv u,rv v]=some [rv (some (vv u*vv v))]:=by
 obtain⟨b,b1,b2,b3,b4⟩:=m9 hu (by omega)
 obtain⟨d,d1,d2,d3,d4⟩:=m9 hv (by omega)
 have g1:=hu.1.mul hv.1
 have g3:=hu.2.mul hv.2
 have g4:=Aq ((vv u).num*(vv v).num) (vv u) (vv v)
 have hp:(0:Int)<(vv u).den*(vv v).den:=Int.mul_pos (by have:=(vv u).den_pos;omega) (by have:=(vv v).den_pos;omega)
 simp only[kS,b3,d3,b2,d2,g1.smB (by omega),g3.smB (by omega),g4,Bool.and_self,cond_true,oQ,(jG _ _ hp).1,(jG _ _ hp).2,wM,wN]
def G4:Option Rat→Option Rat
 | none=>none
 | some x=>some (-x)
theorem P5 (u:Option Rat):vv (G4 u) = - vv u:=by cases u <;> rfl
theorem Dp {u:Option Rat}{j:Nat}(hu:Rb j (vv u))(h:j≤1000000):kr [rv u]=some [rv (G4 u)]:=by
 obtain⟨b,b1,b2,b3,b4⟩:=m9 hu (by omega)
 cases u with
 | none=>rfl
 | some x =>
  have h2:hZ (cl x.num x.den)=some (x.num,(x.den:Int)):=iu (hu.1.sm (by omega)) (hu.2.sm (by omega))
  simp only[kr,oQ,h2,G4,Rat.neg_num,Rat.neg_den]
theorem zH {u:Option Rat}{j:Nat}(hu:Rb j (vv u))(h:j≤1000000):iA [rv u]=some [Ab.bz (gp (vv u))]:=by
 obtain⟨b,b1,b2,b3,b4⟩:=m9 hu (by omega)
 simp only[iA,b3,gp]
theorem Dm {u v:Option Rat}{j k:Nat}(hu:Rb j (vv u))(hv:Rb k (vv v))(h:j+k≤1000000):nJ [rv u,rv v]=some [rv (some (vv u - vv v))]:=by
 obtain⟨d,d1,d2,d3,d4⟩:=m9 hv (by omega)
 have e:cl (-(vv v).num) d=rv (G4 v):=by
  have h1:=Dp hv (by omega)
  simp only[kr,d3,OiE,List.cons.injEq,and_true] at h1
  exact h1
 have h2:Rb k (vv (G4 v)):=by rw[P5];exact hv.neg
 simp only[nJ,d3,e,Dv hu h2 h,P5,Rat.sub_eq_add_neg]
theorem rU (u:Option Rat):canon (rv u)=rv u:=by cases u <;> exact B7 _ _
theorem tq (u:Option Rat):aJ [rv u]=[rv u]:=by simp only[aJ,rU]
theorem tp (u v:Option Rat):aJ [rv u,rv v]=[rv u,rv v]:=by simp only[aJ,rU]
theorem YJ (hp:List Blk)(d:Nat)(u:Option Rat):Ab.snap hp (d+2) (rv u)=some (rv u,[]):=by cases u <;> rfl
theorem qJ (hp:List Blk)(u:Option Rat):bq (snap hp bn) [rv u]=some ([rv u],[]):=by cases u <;> rfl
theorem wi (hp:List Blk)(u v:Option Rat):bq (snap hp bn) [rv u,rv v]=some ([rv u,rv v],[]):=by cases u <;> cases v <;> rfl
theorem J2:base.shared 55=false:=by kernel_rfl
theorem Y2:base.shared 56=false:=by kernel_rfl
theorem Df:base.shared 49=false:=by kernel_rfl
theorem ahg {L:Lst}(hL:bu L 55=fun a=>nJ (aJ a))(run:ar){u v:Option Rat}{j k:Nat}(hu:Rb j (vv u))(hv:Rb k (vv v))(h:j+k≤1000000):au L run 55 [rv u,rv v] (rv (some (vv u - vv v))):=fun dr hp =>
 bw J2 hL run dr hp _ [rv (some (vv u - vv v))] (wi hp u v) (tp u v) (Dm hu hv h)
theorem LM {L:Lst}(hL:bu L 49=fun a=>iA (aJ a))(run:ar){u:Option Rat}{j:Nat}(hu:Rb j (vv u))(h:j≤1000000):au L run 49 [rv u] (Ab.bz (gp (vv u))):=fun dr hp =>
 bw Df hL run dr hp _ [Ab.bz (gp (vv u))] (qJ hp u) (tq u) (zH hu h)
end Go.Proofs.YtjdmodeenbdfpaaGreat
namespace Go.Ab
open Go List
theorem OZ {x:Nat}(h:l7 x=true):dv x+48=x:=by rw[dN] at h;unfold dv;omega
theorem VX {ds:List Nat}(h:fc ds=true):(dvs ds).reverse.map (· + 48)=ds:=by
 rw[dvs,reverse_reverse,map_map]
 conv=>rhs;rw[← map_id ds]
 refine map_congr_left fun x hx => ?_
 exact OZ (fN h hx)
theorem acr {ds:List Nat}(hd:fc ds=true)(h2:∀ a l,ds=a::l→a≠48):T.Top (dvs ds):=by
 intro m a e
 cases ds with
 | nil=>simp[dvs] at e
 | cons b l =>
  rw[yc] at e
  have:=(append_inj' e rfl).2
  simp only[List.cons.injEq,and_true] at this
  subst this
  have h3:=dN.1 (fN hd (mem_cons_self))
  have h4:=h2 b l rfl
  unfold dv
  omega
theorem Lw {m:Bool}{ds:List Nat}(hd:fc ds=true)(h0:ds≠[])(h1:m=true→ds≠[48])(h2:∀ a b l,ds=a::b::l→a≠48):(bif m then [45] else [])++ds=ztx (ia m (dec 0 ds)):=by
 rw[← vB]
 by_cases h:ds=[48]
 ·subst h
  cases m with
  | true=>exact absurd rfl (h1 rfl)
  | false=>rfl
 ·have hh:∀ a l,ds=a::l→a≠48:=by
   intro a l e
   cases l with
   | nil=>rw[e] at h;intro ea;exact h (by rw[ea])
   | cons b l=>exact h2 a b l e
  have ht:=acr hd hh
  have hne:dvs ds≠[]:=by
   intro e
   have:=congrArg List.length e
   rw[mU] at this
   exact h0 (length_eq_zero_iff.1 this)
  have hv:=ht.qD hne
  rw[vk] at hv
  unfold itx
  rw[if_neg hv,← vk,T.kF (IB hd) ht,VX hd]
theorem VZ (n:Nat):dtx n≠[]:=by
 intro e
 have:=congrArg List.length e
 unfold dtx at this
 split at this
 ·simp at this
 ·rename_i h
  have h2:=T.da.2 h
  rw[length_map,length_reverse,length_nil] at this
  omega
theorem V1 {n:Nat}{a:Nat}{l:List Nat}(h:dtx n=a::l)(hn:n≠0):a≠48:=by
 unfold dtx at h
 rw[if_neg hn] at h
 have ht:=T.jK n
 have e:T.aK n=l.reverse.map (· - 48)++[a - 48]:=by
  have h3:=congrArg (fun x=>(x.map (· - 48)).reverse) h
  simp only[map_map,reverse_cons,map_cons] at h3
  have h4:((fun x=>x - 48) ∘ fun x=>x+48)=(id:Nat→Nat):=by funext x;simp
  rw[h4,map_id,reverse_reverse] at h3
  rw[h3,map_reverse]
 have h5:=ht _ _ e
 omega
theorem VY {n:Nat}(h:dtx n=[48]):n=0:=by
 by_cases hn:n=0
 ·exact hn
 ·exact absurd rfl (V1 h hn)
theorem rG {n a b:Nat}{l:List Nat}(h:dtx n=a::b::l):a≠48:=by
 by_cases hn:n=0
 ·subst hn;simp[dtx] at h
 ·exact V1 h hn
theorem acu {n m:Nat}(h:dtx n=dtx m):n=m:=by rw[← pe n,← pe m,h]
theorem qv {x y:Int}(h:ztx x=ztx y):x=y:=by
 obtain⟨m,h1,rfl⟩:=nG x
 obtain⟨k,h2,rfl⟩:=nG y
 rw[h,h2] at h1
 simp only[OiE,PiE] at h1
 have h3:=acu h1.2
 rw[← iG x,← iG y,h1.1,h3]
theorem KP {z:Int}(h:bA z=true):dtx z.natAbs≠[48]:=by
 intro e
 have:=VY e
 rw[cR] at h
 simp at h
 omega
theorem Ie {l m:List Nat}(hl:Bok l)(hm:Bok m)(h:tx l=tx m):l=m:=by
 rw[← jZ hl,← jZ hm,h]
end Go.Ab
