/- Contracts of numbers kept as digits in text, part 36 of the proof; each lemma states its own conditions. -/
import Derived.Test.YtjdmodeenbdfpaaGreatQ35
import Derived.Test.YtjdmodeenbdfpaaGreatQ29
import Derived.Test.YtjdmodeenbdfpaaGreatQ34
import Derived.Test.YtjdmodeenbdfpaaGreatQ28
set_option linter.unusedSimpArgs false
set_option linter.unusedVariables false
namespace Go.Proofs.YtjdmodeenbdfpaaGreat
open Go Go.Ab
theorem Za (run:aq)(x y:Int)(hx:Zm x)(hy:Zm y):ar LT9 run 69 [zs x,zs y] (Ab.bC (fD x y)):=fun dr hp =>
 bp Ci XS run dr hp _ [Ab.bC (fD x y)] rfl rfl (by simp only[lE,cD x hx,cD y hy])
theorem Y9 (run:aq)(x y:Int)(hx:Zm x)(hy:Zm y):ar LT9 run 112 [zs x,zs y] (zs ((Nat.gcd x.natAbs y.natAbs:Nat):Int)):=fun dr hp =>
 bp Cg XR run dr hp _ [zs ((Nat.gcd x.natAbs y.natAbs:Nat):Int)] rfl rfl (by simp only[sO,cD x hx,cD y hy])
theorem JH (run:aq)(x y:Int)(hx:Zm x)(hy:Zm y)(h0:0<y):ar LT9 run 121 [zs x,zs y] (.tup [zs (x / y),zs (x % y)]):=fun dr hp =>
 bp Cd XP run dr hp _ [zs (x / y),zs (x % y)] rfl rfl (by simp only[sK,cD x hx,cD y hy,decide_eq_true h0,cond_true])
theorem yF (run:aq)(k:Nat)(fr:List PV)(n d:Int)(hn:Zm n)(hd:Zm d)(hd0:0<d)(h37:fr.length=37)(h0:nth fr 0=zs n)(h1:nth fr 1=zs d) :
  ∃ st,af (CC LT9) run k (ah 2 j6) ⟨fr,[],[]⟩=some (.ret,st)∧aV TT st.fr st.hp Tryz.f67.results.toList=some [qs (n / (Nat.gcd n.natAbs d.natAbs:Nat)) (d / (Nat.gcd n.natAbs d.natAbs:Nat))]:=by
 have hgp:0<Nat.gcd n.natAbs d.natAbs:=Nat.gcd_pos_of_pos_right _ (by omega)
 have hgd:Nat.gcd n.natAbs d.natAbs≤d.natAbs:=Nat.gcd_le_right _ (by omega)
 have hg:=Y9 run n d hn hd
 have hgz:Zm ((Nat.gcd n.natAbs d.natAbs:Nat):Int):=Zm.aeT (Zm.abs hd) hgd
 have hv:=Yu ((Nat.gcd n.natAbs d.natAbs:Nat):Int)
 generalize Nat.gcd n.natAbs d.natAbs=g at *
 have hn1:(ztx n).length≤3000000:=hn
 have hd1:(ztx d).length≤3000000:=hd
 by_cases h:(g:Int)=1
 ·rw[decide_eq_true h] at hv
  obtain⟨f1,a1,a2,a3,a4⟩:=QC LT9 run k fr _ _ _ hv hg h37 h0 h1
  obtain⟨st,x1,x2⟩:=yH LT9 run k f1 n d (by omega) (by omega) a2 a3 a4
  refine⟨st,by rw[aM 2 a1];exact x1,?_⟩
  rw[x2,h,Int.ediv_one,Int.ediv_one]
 ·rw[decide_eq_false h] at hv
  have hg0:(0:Int)<(g:Int):=by omega
  have b:∀ z:Int,(ztx z).length≤3000000→(ztx (z / (g:Int))).length≤4000000:=by
   intro z hz
   rw[gk] at hz ⊢
   have:=nk (x:=z / (g:Int)) (y:=z) (by
    rcases Int.lt_or_le z 0 with h1 | h1
    ·have h2:z≤z / (g:Int):=by
      rw[Int.le_ediv_iff_mul_le hg0]
      have:(g:Int) ≥ 1:=by omega
      have:=Int.mul_le_mul_of_nonpos_left (a:=z) (b:=(g:Int)) (c:=1) (by omega) (by omega)
      omega
     have h3:z / (g:Int)≤0:=by
      rcases Int.lt_or_le 0 (z / (g:Int)) with h | h
      ·have:=(Int.le_ediv_iff_mul_le hg0).1 (show 1≤z / (g:Int) from h)
       omega
      ·exact h
     omega
    ·have h2:z / (g:Int)≤z:=Int.ediv_le_self _ h1
     have h3:0≤z / (g:Int):=Int.ediv_nonneg h1 (by omega)
     omega)
   cases bt (z / (g:Int)) <;> simp <;> omega
  obtain⟨f1,a1,a2,a3,a4⟩:=LO LT9 run k fr _ _ _ _ _ _ _ hv hg (JH run n g hn hgz hg0) (JH run d g hd hgz hg0) h37 h0 h1
  obtain⟨st,x1,x2⟩:=yH LT9 run k f1 (n / (g:Int)) (d / (g:Int)) (b n hn1) (b d hd1) a2 a3 a4
  exact⟨st,by rw[aM 2 a1];exact x1,x2⟩
def pw (n d:Int):Int:=n / (Nat.gcd n.natAbs d.natAbs:Nat)
def oA (n d:Int):Int:=d / (Nat.gcd n.natAbs d.natAbs:Nat)
def so:List PV→Option (List PV)
 | [p,q]=>match fK p,fK q with
  | some n,some d=>bif decide (0<d) then some [qs (pw n d) (oA n d)] else
    bif decide (d<0) && ((dN n).blt eL && (dN d).blt eL) then some [qs (pw (-n) (-d)) (oA (-n) (-d))] else none
  | _,_=>none
 | _=>none
theorem yG:Ab.Spec base.P 67 so:=Ab.Spec.bN (C:=CC LT9) (cU Vn) fun args rs h=>by
 unfold so at h
 split at h
 ·split at h
  ·rename_i n d ex ey
   obtain⟨rfl,hn⟩:=dc ex
   obtain⟨rfl,hd⟩:=dc ey
   have h00:Zm 0:=by unfold Zm;decide
   have gc:=Za (runK (CC LT9) 1) d 0 hd h00
   by_cases hp:0<d
   ·rw[decide_eq_true hp] at h
    simp only[cond_true,Option.some.injEq] at h
    subst h
    obtain⟨f1,a1,a2,a3,a4⟩:=QB LT9 (runK (CC LT9) 1) 1 (tx (ztx n)) (tx (ztx d)) _ (by unfold fD;rw[if_neg (by omega),if_neg (by omega)];omega) gc
    obtain⟨st,x1,x2⟩:=yF (runK (CC LT9) 1) 1 f1 n d hn hd hp a2 a3 a4
    have hx:af (CC LT9) (runK (CC LT9) 1) 1 j6 ⟨entry 37 [zs n,zs d],[],[]⟩=some (.ret,st):=(aM 2 a1).trans x1
    exact⟨2,_,_,_,_,_,aQ xw rfl hx x2,rfl,Wk.refl rfl,trivial⟩
   ·rw[decide_eq_false hp] at h
    simp only[cond_false] at h
    by_cases hng:d<0
    ·rw[decide_eq_true hng,Bool.true_and] at h
     cases hb:(dN n).blt eL && (dN d).blt eL with
     | false=>rw[hb] at h;cases h
     | true =>
      rw[hb] at h
      simp only[cond_true,Option.some.injEq] at h
      subst h
      simp only[Bool.and_eq_true,Nat.blt_eq] at hb
      obtain⟨f1,a1,a2,a3,a4⟩:=QD LT9 (runK (CC LT9) 1) 1 (tx (ztx n)) (tx (ztx d)) _ _ _ (by unfold fD;rw[if_pos hng];omega) gc (A8 _ n hn) (A8 _ d hd)
      obtain⟨st,x1,x2⟩:=yF (runK (CC LT9) 1) 1 f1 (-n) (-d) (Zm.neg hn hb.1) (Zm.neg hd hb.2) (by omega) a2 a3 a4
      have hx:af (CC LT9) (runK (CC LT9) 1) 1 j6 ⟨entry 37 [zs n,zs d],[],[]⟩=some (.ret,st):=(aM 2 a1).trans x1
      exact⟨2,_,_,_,_,_,aQ xw rfl hx x2,rfl,Wk.refl rfl,trivial⟩
    ·rw[decide_eq_false hng] at h
     cases h
  ·cases h
 ·cases h
def og:PV→Option (Int × Int)
 | .sc (.string s)=>match fK (.sc (.string (tx (spl (bys s)).1))),fK (.sc (.string (tx (spl (bys s)).2.1))) with
  | some n,some d=>bif decide (bys s=qtx n d) && decide (0<d) then some (n,d) else none
  | _,_=>none
 | _=>none
theorem jP {p:PV}{n d:Int}(h:og p=some (n,d)):p=qs n d∧Zm n∧Zm d∧0<d:=by
 unfold og at h
 split at h
 ·rename_i s
  split at h
  ·rename_i n' d' e1 e2
   cases hb:decide (bys s=qtx n' d') && decide (0<d') with
   | false=>rw[hb] at h;cases h
   | true =>
    rw[hb] at h
    simp only[cond_true,Option.some.injEq,Prod.mk.injEq] at h
    obtain⟨rfl,rfl⟩:=h
    simp only[Bool.and_eq_true,decide_eq_true_eq] at hb
    refine⟨?_,(dc e1).2,(dc e2).2,hb.2⟩
    rw[qs,← hb.1,ib]
  ·cases h
 ·cases h
theorem Um {n d:Int}(hn:Zm n)(hd:Zm d)(h0:0<d):og (qs n d)=some (n,d):=by
 have e1:fK (.sc (.string (tx (ztx n))))=some n:=cD n hn
 have e2:fK (.sc (.string (tx (ztx d))))=some d:=cD d hd
 simp only[og,qs,jm (GW n d),Ap,e1,e2,decide_eq_true h0,decide_true,Bool.and_self,cond_true]
def oC:List PV→Option (List PV)
 | [p]=>match og p with
  | some (n,d)=>some [qs (-n) d]
  | none=>none
 | _=>none
theorem vi:Ab.Spec base.P 122 oC:=Ab.Spec.bN (C:=CC LT9) (cU Vn) fun args rs h=>by
 unfold oC at h
 split at h
 ·split at h
  ·rename_i n d e
   obtain⟨rfl,hn,hd,h0⟩:=jP e
   simp only[Option.some.injEq] at h
   subst h
   have h1:(ztx n).length≤3000000:=hn
   have h2:(ztx d).length≤3000000:=hd
   have h3:(ztx (-n)).length≤4000000:=by
    rw[gk] at h1 ⊢
    rw[BH]
    cases bt (-n) <;> simp <;> omega
   obtain⟨st,x1,x2⟩:=Gj LT9 (runK (CC LT9) 1) 1 n d (-n) h3 (by omega) (acY _ n d hn hd) (A8 _ n hn)
   exact⟨2,_,_,_,_,_,aQ Ie rfl x1 x2,rfl,Wk.refl rfl,trivial⟩
  ·cases h
 ·cases h
noncomputable def nf:Lst:=[(65,j5),(68,sz),(66,ij),(69,lE),(67,so),(122,oC)]
theorem Kx:dM base.P nf:=⟨nE,yK,mw,oE,yG,vi,trivial⟩
theorem X7:bu nf 65=fun a=>j5 (aJ a):=rfl
theorem X6:bu nf 68=fun a=>sz (aJ a):=rfl
theorem X8:bu nf 66=fun a=>ij (aJ a):=rfl
theorem R9:bu nf 67=fun a=>so (aJ a):=rfl
theorem nM (run:aq)(n d:Int)(hn:Zm n)(hd:Zm d):ar nf run 65 [qs n d] (.tup [zs n,zs d,.sc (.bool (!decide (d=1)))]):=fun dr hp =>
 bp jF X7 run dr hp _ [zs n,zs d,.sc (.bool (!decide (d=1)))] rfl rfl (Fp n d hn hd)
theorem pR (run:aq)(x y:Int)(hx:Zm x)(hy:Zm y):ar nf run 68 [zs x,zs y] (zs (x*y)):=fun dr hp =>
 bp uO X6 run dr hp _ [zs (x*y)] rfl rfl (by simp only[sz,cD x hx,cD y hy])
theorem DW (run:aq)(n d:Int)(hn:Zm n)(hd:Zm d)(h0:0<d):ar nf run 67 [zs n,zs d] (qs (pw n d) (oA n d)):=fun dr hp =>
 bp Cc R9 run dr hp _ [qs (pw n d) (oA n d)] rfl rfl (by simp only[so,cD n hn,cD d hd,decide_eq_true h0,cond_true])
theorem LM (L:Lst)(run:aq)(k:Nat)(s t a b c d e f r:ByteArray)(u v:Bool)(g1:ar L run 65 [.sc (.string s)] (.tup [.sc (.string a),.sc (.string b),.sc (.bool u)]))(g2:ar L run 65 [.sc (.string t)] (.tup [.sc (.string c),.sc (.string d),.sc (.bool v)]))
  (g3:ar L run 68 [.sc (.string a),.sc (.string c)] (.sc (.string e))) (g4:ar L run 68 [.sc (.string b),.sc (.string d)] (.sc (.string f))) (g5:ar L run 67 [.sc (.string e),.sc (.string f)] (.sc (.string r))) :
  ∃ st,af (CC L) run k (Tryz.f34.body.getD .skip) ⟨entry 30 [.sc (.string s),.sc (.string t)],[],[]⟩=some (.ret,st)∧aV TT st.fr st.hp Tryz.f34.results.toList=some [.sc (.string r)]:=by
 obtain⟨e1,e2,e3⟩:=cn 28 (.sc (.string s)) (.sc (.string t))
 generalize entry 30 [.sc (.string s),.sc (.string t)]=fr0 at *
 unfold ar at *
 simp[Tryz.f34,e1,e2,e3,af,aH,an,ao,aG,ag,ai,aO,aj,ak,aC,az,FP.none,av,aa,ae,ab,g1,g2,g3,g4,g5,aV]
def zmB (z:Int):Bool:=(ztx z).length.ble eL
theorem qH {z:Int}(h:zmB z=true):Zm z:=by unfold zmB at h;rw[Nat.ble_eq] at h;exact h
def yD:List PV→Option (List PV)
 | [p,q]=>match og p,og q with
  | some (n,d),some (m,k)=>bif zmB (n*m) && zmB (d*k) then some [qs (pw (n*m) (d*k)) (oA (n*m) (d*k))] else none
  | _,_=>none
 | _=>none
theorem LL:Ab.Spec base.P 34 yD:=Ab.Spec.bN (C:=CC nf) (cU Kx) fun args rs h=>by
 unfold yD at h
 split at h
 ·split at h
  ·rename_i n d m k ex ey
   obtain⟨rfl,hn,hd,hd0⟩:=jP ex
   obtain⟨rfl,hm,hk,hk0⟩:=jP ey
   cases hb:zmB (n*m) && zmB (d*k) with
   | false=>rw[hb] at h;cases h
   | true =>
    rw[hb] at h
    simp only[cond_true,Option.some.injEq] at h
    subst h
    simp only[Bool.and_eq_true] at hb
    obtain⟨st,x1,x2⟩:=LM nf (runK (CC nf) 1) 1 _ _ _ _ _ _ _ _ _ _ _ (nM _ n d hn hd) (nM _ m k hm hk) (pR _ n m hn hm) (pR _ d k hd hk) (DW _ _ _ (qH hb.1) (qH hb.2) (Int.mul_pos hd0 hk0))
    exact⟨2,_,_,_,_,_,aQ BB rfl x1 x2,rfl,Wk.refl rfl,trivial⟩
  ·cases h
 ·cases h
theorem JL (run:aq)(x y:Int)(hx:Zm x)(hy:Zm y):ar nf run 66 [zs x,zs y] (zs (x+y)):=fun dr hp =>
 bp qO X8 run dr hp _ [zs (x+y)] rfl rfl (by simp only[ij,cD x hx,cD y hy])
theorem Gi (L:Lst)(run:aq)(k:Nat)(s t a b c d r:ByteArray)(u v:Bool)(hb:ef .eql b { data:=#[49] } = some (.bool true))(hd:ef .eql d { data:=#[49] } = some (.bool true))(g1:ar L run 65 [.sc (.string s)] (.tup [.sc (.string a),.sc (.string b),.sc (.bool u)]))(g2:ar L run 65 [.sc (.string t)] (.tup [.sc (.string c),.sc (.string d),.sc (.bool v)]))
  (g3:ar L run 66 [.sc (.string a),.sc (.string c)] (.sc (.string r))) :
  ∃ st,af (CC L) run k (Tryz.f24.body.getD .skip) ⟨entry 43 [.sc (.string s),.sc (.string t)],[],[]⟩=some (.ret,st)∧aV TT st.fr st.hp Tryz.f24.results.toList=some [.sc (.string r)]:=by
 obtain⟨e1,e2,e3⟩:=cn 41 (.sc (.string s)) (.sc (.string t))
 generalize entry 43 [.sc (.string s),.sc (.string t)]=fr0 at *
 unfold ar at *
 simp[Tryz.f24,e1,e2,e3,af,aH,an,ao,aG,ag,ai,aO,aj,ak,aC,az,FP.none,aY,av,aa,ae,ab,g1,g2,g3,hb,hd,aV]
theorem Gh (L:Lst)(run:aq)(k:Nat)(s t a b c d e f g h r:ByteArray)(u v w1 w2:Bool)(hw:(w1 && w2)=false)(hb:ef .eql b { data:=#[49] } = some (.bool w1))(hd:ef .eql d { data:=#[49] } = some (.bool w2))(g1:ar L run 65 [.sc (.string s)] (.tup [.sc (.string a),.sc (.string b),.sc (.bool u)]))(g2:ar L run 65 [.sc (.string t)] (.tup [.sc (.string c),.sc (.string d),.sc (.bool v)]))
  (g3:ar L run 68 [.sc (.string a),.sc (.string d)] (.sc (.string e))) (g4:ar L run 68 [.sc (.string c),.sc (.string b)] (.sc (.string f))) (g5:ar L run 66 [.sc (.string e),.sc (.string f)] (.sc (.string g))) (g6:ar L run 68 [.sc (.string b),.sc (.string d)] (.sc (.string h))) (g7:ar L run 67 [.sc (.string g),.sc (.string h)] (.sc (.string r))) :
  ∃ st,af (CC L) run k (Tryz.f24.body.getD .skip) ⟨entry 43 [.sc (.string s),.sc (.string t)],[],[]⟩=some (.ret,st)∧aV TT st.fr st.hp Tryz.f24.results.toList=some [.sc (.string r)]:=by
 obtain⟨e1,e2,e3⟩:=cn 41 (.sc (.string s)) (.sc (.string t))
 generalize entry 43 [.sc (.string s),.sc (.string t)]=fr0 at *
 unfold ar at *
 cases w1 <;> cases w2 <;> simp only[Bool.and_true,Bool.and_false,Bool.and_self,Bool.true_eq_false] at hw <;> simp[Tryz.f24,e1,e2,e3,af,aH,an,ao,aG,ag,ai,aO,aj,ak,aC,az,FP.none,aY,av,aa,ae,ab,g1,g2,g3,g4,g5,g6,g7,hb,hd,undef,aV]
def ss:List PV→Option (List PV)
 | [p,q]=>match og p,og q with
  | some (n,d),some (m,k)=>bif decide (d=1) && decide (k=1) then some [qs (n+m) 1] else
    bif zmB (n*k) && (zmB (m*d) && (zmB (n*k+m*d) && zmB (d*k))) then some [qs (pw (n*k+m*d) (d*k)) (oA (n*k+m*d) (d*k))] else none
  | _,_=>none
 | _=>none
theorem qZ:Ab.Spec base.P 24 ss:=Ab.Spec.bN (C:=CC nf) (cU Kx) fun args rs h=>by
 unfold ss at h
 split at h
 ·split at h
  ·rename_i n d m k ex ey
   obtain⟨rfl,hn,hd,hd0⟩:=jP ex
   obtain⟨rfl,hm,hk,hk0⟩:=jP ey
   cases hw:decide (d=1) && decide (k=1) with
   | true =>
    rw[hw] at h
    simp only[cond_true,Option.some.injEq] at h
    subst h
    simp only[Bool.and_eq_true,decide_eq_true_eq] at hw
    obtain⟨rfl,rfl⟩:=hw
    obtain⟨st,x1,x2⟩:=Gi nf (runK (CC nf) 1) 1 _ _ _ _ _ _ _ _ _ (iO 1) (iO 1) (nM _ n 1 hn hd) (nM _ m 1 hm hk) (JL _ n m hn hm)
    exact⟨2,_,_,_,_,_,aQ tr rfl x1 x2,rfl,Wk.refl rfl,trivial⟩
   | false =>
    rw[hw] at h
    simp only[cond_false] at h
    cases hb:zmB (n*k) && (zmB (m*d) && (zmB (n*k+m*d) && zmB (d*k))) with
    | false=>rw[hb] at h;cases h
    | true =>
     rw[hb] at h
     simp only[cond_true,Option.some.injEq] at h
     subst h
     simp only[Bool.and_eq_true] at hb
     obtain⟨b1,b2,b3,b4⟩:=hb
     obtain⟨st,x1,x2⟩:=Gh nf (runK (CC nf) 1) 1 _ _ _ _ _ _ _ _ _ _ _ _ _ _ _ hw (iO d) (iO k) (nM _ n d hn hd) (nM _ m k hm hk) (pR _ n k hn hk) (pR _ m d hm hd) (JL _ _ _ (qH b1) (qH b2)) (pR _ d k hd hk) (DW _ _ _ (qH b3) (qH b4) (Int.mul_pos hd0 hk0))
     exact⟨2,_,_,_,_,_,aQ tr rfl x1 x2,rfl,Wk.refl rfl,trivial⟩
  ·cases h
 ·cases h
end Go.Proofs.YtjdmodeenbdfpaaGreat
namespace Go.Ab
open Go
noncomputable def ctr {α:Type}(e:α→List PV)(ok:α→Prop)(f:α→List PV)(a:List PV):Option (List PV) :=
 @dite _ (∃ x,ok x∧e x=a) (Classical.propDecidable _) (fun h=>some (f h.choose)) (fun _=>none)
theorem db {α:Type}{e:α→List PV}{ok:α→Prop}{f:α→List PV}{a r:List PV}(h:ctr e ok f a=some r):∃ x,ok x∧e x=a∧f x=r:=by
 unfold ctr at h
 split at h
 ·rename_i hx
  exact⟨hx.choose,hx.choose_spec.1,hx.choose_spec.2,by simpa using h⟩
 ·cases h
theorem mZ {α:Type}{e:α→List PV}{ok:α→Prop}{f:α→List PV}(inj:∀ x y,ok x→ok y→e x=e y→f x=f y){x:α}(hx:ok x):ctr e ok f (e x)=some (f x):=by
 have h:∃ y,ok y∧e y=e x:=⟨x,hx,rfl⟩
 unfold ctr
 rw[dif_pos h,inj _ x h.choose_spec.1 hx h.choose_spec.2]
structure El {α:Type} (s:Nat) (e:α→List PV):Prop where
 len:∀ a,(e a).length=s
 okc:∀ a,bc (e a)=true
 idf:∀ a,bM (e a)=true
 sn:∀ hp d a,bq (snap hp (d+1)) (e a)=some (e a,[])
structure Ec {α:Type} (s:Nat) (e:α→List PV):Prop extends El s e where
 can:∀ a,aJ (e a)=e a
theorem Sc1.ec {α:Type}{e:α→PV}(h:Sc1 e):Ec 1 fun a=>[e a] where
 len:=fun _=>rfl
 okc:=fun a=>by simp only[bc,h.okc,Bool.and_self]
 can:=fun a=>by simp only[Ab.aJ,h.canon]
 idf:=fun a=>by simp only[bM,h.idf,Bool.and_self]
 sn:=fun hp d a=>by
  have:=h.IY hp d [a]
  simpa using this
theorem mG:∀ (a b:List PV),bc (a++b)=(bc a && bc b)
 | [],b=>rfl
 | x::a,b=>by simp only[List.cons_append,bc,mG a b,Bool.and_assoc]
theorem kC:∀ (a b:List PV),aJ (a++b)=aJ a++aJ b
 | [],b=>by simp[aJ]
 | x::a,b=>by simp only[List.cons_append,aJ,kC a b]
theorem kr {f:PV→Option (PV × List Nat)} : ∀ {a b a' b':List PV} {i j:List Nat},bq f a=some (a',i)→bq f b=some (b',j)→bq f (a++b)=some (a'++b',i++j)
 | [],b,a',b',i,j,h1,h2=>by
  simp only[bq,Option.some.injEq,Prod.mk.injEq] at h1
  obtain⟨rfl,rfl⟩:=h1
  simpa using h2
 | x::a,b,a',b',i,j,h1,h2=>by
  simp only[bq] at h1
  cases hx:f x with
  | none=>rw[hx] at h1;cases h1
  | some y =>
   rw[hx] at h1
   simp only at h1
   cases ha:bq f a with
   | none=>rw[ha] at h1;cases h1
   | some z =>
    rw[ha] at h1
    simp only[Option.some.injEq,Prod.mk.injEq] at h1
    obtain⟨rfl,rfl⟩:=h1
    simp only[List.cons_append,bq,hx,kr ha h2,List.append_assoc]
def fJ {α:Type}(e:α→List PV)(l:List α):PV:=.imm l.length false (l.flatMap e)
section
variable {α:Type} {s:Nat} {e:α→List PV}
theorem El.length (h:El s e)(l:List α):(l.flatMap e).length=l.length*s:=by
 induction l with
 | nil=>simp
 | cons a l ih=>rw[List.flatMap_cons,List.length_append,h.len,ih,List.length_cons,Nat.succ_mul];omega
theorem El.R1 (h:El s e):∀ l:List α,bc (l.flatMap e)=true
 | []=>rfl
 | a::l=>by rw[List.flatMap_cons,mG,h.okc,h.R1 l];rfl
theorem Ec.afD (h:Ec s e):∀ l:List α,aJ (l.flatMap e)=l.flatMap e
 | []=>rfl
 | a::l=>by rw[List.flatMap_cons,kC,h.can,h.afD l]
theorem El.sns (h:El s e)(hp:List Blk)(d:Nat):∀ l:List α,bq (snap hp (d+1)) (l.flatMap e)=some (l.flatMap e,[])
 | []=>rfl
 | a::l=>kr (h.sn hp d a) (h.sns hp d l)
theorem Ec.ZY (h:Ec s e)(n:Nat)(x:Bool)(l:List α)(hl:l.length=n):canon (.imm n x (l.flatMap e))=fJ e l:=by
 rw[canon,h.afD,fJ,hl]
theorem Ec.HL (h:Ec s e)(l:List α):canon (fJ e l)=fJ e l:=h.ZY _ _ l rfl
theorem Ec.list (h:Ec s e):Ec 1 fun l:List α=>[fJ e l] where
 len:=fun _=>rfl
 okc:=fun _=>rfl
 can:=fun l=>by simp only[aJ,h.HL]
 idf:=fun l=>by simp only[fJ,bM,PV.cC,Bool.and_self]
 sn:=fun _ _ _=>rfl
theorem TY (h:El s e):∀ (l:List α) (i:Nat),i≤l.length→br (l.flatMap e) (i*s)=(l.drop i).flatMap e
 | l,0,_=>by rw[Nat.zero_mul,cM,List.drop_zero,List.drop_zero]
 | [],i+1,hi=>by simp at hi
 | a::l,i+1,hi=>by
  rw[cM,List.flatMap_cons]
  have:(i+1)*s=(e a).length+i*s:=by rw[h.len,Nat.succ_mul];omega
  rw[this,← List.drop_drop,List.drop_left,← cM,TY h l i (by simpa using hi),List.drop_succ_cons]
theorem pY (h:El s e)(l:List α)(i:Nat)(hi:i<l.length):br (l.flatMap e) (i*s)=e l[i]++(l.drop (i+1)).flatMap e:=by
 rw[TY h l i (by omega),List.drop_eq_getElem_cons hi,List.flatMap_cons]
theorem qJ (h:El s e)(l m:List α):bE ((l++m).flatMap e) (l.length*s)=some (l.flatMap e):=by
 rw[dS (by rw[h.length,List.length_append,Nat.add_mul];omega),List.flatMap_append,← h.length l,List.take_left]
theorem vW:∀ (a b c:List PV),a.length=b.length→bX (a++c) 0 b=some (b++c)
 | [],[],c,_=>by cases c <;> rfl
 | x::a,y::b,c,h=>by simp only[List.cons_append,bX,vW a b c (by simpa using h)]
 | [],_::_,_,h=>by simp at h
 | _::_,[],_,h=>by simp at h
theorem za:∀ (a c v r:List PV) (n:Nat),bX c n v=some r→bX (a++c) (a.length+n) v=some (a++r)
 | [],c,v,r,n,h=>by simpa using h
 | x::a,c,v,r,n,h=>by
  have:(x::a).length+n=(a.length+n)+1:=by simp;omega
  rw[this,List.cons_append,bX,za a c v r n h,List.cons_append]
def hZ (s:Nat)(e:α→List PV)(b:Nat)(hp:List Blk)(l:List α)(p:PV):Prop :=
 b≤hp.length∧((l=[]∧p = .sc (.slice none 0 0))∨∃ id m x,b≤id∧id<hp.length∧p = .own id s 0 l.length x∧(x=true→m=[])∧aZ hp id=some ⟨.live,(l++m).flatMap e⟩)
theorem hZ.nil {b:Nat}{hp:List Blk}(h:b≤hp.length):hZ s e b hp [] (.sc (.slice none 0 0)):=⟨h,.inl ⟨rfl,rfl⟩⟩
theorem hZ.len {b:Nat}{hp:List Blk}{l:List α}{p:PV}(h:hZ s e b hp l p):dQ p=some l.length:=by
 rcases h.2 with ⟨rfl,rfl⟩| ⟨id,m,x,_,_,rfl,_,h⟩ <;> rfl
theorem hZ.cells {b:Nat}{hp:List Blk}{l:List α}{p:PV}(h:hZ s e b hp l p):p.cells?=some [p]:=by
 rcases h.2 with ⟨rfl,rfl⟩| ⟨id,m,x,_,_,rfl,_,h⟩ <;> rfl
theorem hZ.okc {b:Nat}{hp:List Blk}{l:List α}{p:PV}(h:hZ s e b hp l p):eG p=true:=by
 rcases h.2 with ⟨rfl,rfl⟩| ⟨id,m,x,_,_,rfl,_,h⟩ <;> rfl
theorem hZ.app (he:El s e){b:Nat}{hp:List Blk}{l:List α}{p:PV}(h:hZ s e b hp l p)(ns:List α)(h0:ns≠[])(hl:l.length+ns.length<1000000000) :
  ∃ p' hp' fp,cV hp s p ns.length (ns.flatMap e)=some (p',hp',fp)∧hZ s e b hp' (l++ns) p'∧(∀ i,i<b→aZ hp' i=aZ hp i)∧hp.length≤hp'.length:=by
 obtain⟨hb,h⟩:=h
 have hn:ns.length≠0:=by simpa using h0
 have hml : ¬ (cL<ns.length):=by unfold cL;omega
 have hml2:l.length+ns.length≤cL:=by unfold cL;omega
 rcases h with ⟨rfl,rfl⟩| ⟨id,m,x,hid,hid2,rfl,hx,h⟩
 ·refine⟨.own hp.length s 0 ns.length false,aP hp (ns.flatMap e),⟨[],[hp.length],true,false⟩,?_,⟨by simp[aP];omega,.inr ⟨hp.length,[],false,hb,by simp[aP],by simp,nofun,?_⟩⟩,fun i hi => ?_,by simp[aP]⟩
  ·simp only[cV]
   rw[if_neg hn,if_pos (by omega)]
  ·rw[bO,if_pos rfl];simp
  ·rw[bO,if_neg (by omega)]
 ·have ht:bE (br ((l++m).flatMap e) 0) (l.length*s)=some (l.flatMap e):=by
   rw[cM,List.drop_zero,qJ (s:=s) he]
  cases x with
  | true =>
   refine⟨.own hp.length s 0 (l.length+ns.length) false,aP hp (l.flatMap e++ns.flatMap e),⟨[id],[hp.length],true,false⟩,?_,⟨by simp[aP];omega,.inr ⟨hp.length,[],false,hb,by simp[aP],by simp,nofun,?_⟩⟩,fun i hi => ?_,by simp[aP]⟩
   ·simp only[cV,h,ht]
    rw[if_neg (by simp),if_neg hn,if_neg (by simp),if_pos hml2]
   ·rw[bO,if_pos rfl];simp
   ·rw[bO,if_neg (by omega)]
  | false =>
   refine⟨.own hp.length s 0 (l.length+ns.length) false,aP (cf hp id ⟨.dead,[]⟩) (l.flatMap e++ns.flatMap e),⟨[],[id,hp.length],true,false⟩,?_,⟨by simp[aP,bG];omega,.inr ⟨hp.length,[],false,hb,by simp[aP,bG],by simp,nofun,?_⟩⟩,fun i hi => ?_,by simp[aP,bG]⟩
   ·simp only[cV,h,ht]
    rw[if_neg (by simp),if_pos hml2]
   ·rw[bO,bG,if_pos rfl];simp
   ·rw[bO,bG,if_neg (by omega),cJ h,if_neg (by omega)]
theorem hZ.snap (he:Ec s e){b:Nat}{hp:List Blk}{l:List α}{p:PV}(h:hZ s e b hp l p):∃ q ids,(∀ d,Ab.snap hp (d+2) p=some (q,ids))∧Wk q (fJ e l)∧Ab.canon q=fJ e l∧(∀ i,i<b→aZ (roB hp ids) i=aZ hp i)∧∀ i ∈ ids,b≤i:=by
 obtain⟨hb,h⟩:=h
 rcases h with ⟨rfl,rfl⟩| ⟨id,m,x,hid,_,rfl,_,h⟩
 ·exact⟨.sc (.slice none 0 0),[],fun _=>rfl,Wk.nil false,rfl,fun _ _=>rfl,by simp⟩
 ·have ht:bE (br ((l++m).flatMap e) 0) (l.length*s)=some (l.flatMap e):=by
   rw[cM,List.drop_zero,qJ he.toEl]
  refine⟨.imm l.length x (l.flatMap e),[id],fun d => ?_,?_,he.ZY _ x l rfl,fun i hi=>AE hp id i (by omega),by simpa using hid⟩
  ·rw[Ab.snap]
   simp only[h]
   rw[if_neg (by simp),ht]
   simp only[he.sns hp d l]
  ·cases x
   ·exact Wk.refl (by simp[PV.cC])
   ·exact Wk.imm _ _ _
theorem hZ.G3 (he:Ec s e){b:Nat}{hp:List Blk}{l:List α}{p:PV}(h:hZ s e b hp l p) :
  ∃ rs ids,bq (Ab.snap hp bj) [p]=some (rs,ids)∧WkL rs [fJ e l]:=by
 obtain⟨q,ids,h1,h2,-⟩:=h.snap he
 refine⟨[q],ids++[],?_,h2,trivial⟩
 simp only[bj,bq,h1 10]
theorem hZ.rd (he:El s e){b:Nat}{hp:List Blk}{l:List α}{p:PV}(h:hZ s e b hp l p):∃ ids,fi hp s p=some (l.length,l.flatMap e,ids):=by
 obtain⟨hb,h⟩:=h
 rcases h with ⟨rfl,rfl⟩| ⟨id,m,x,hid,_,rfl,_,h⟩
 ·exact⟨[],rfl⟩
 ·have ht:bE (br ((l++m).flatMap e) 0) (l.length*s)=some (l.flatMap e):=by
   rw[cM,List.drop_zero,qJ (s:=s) he]
  refine⟨[id],?_⟩
  simp only[fi,h]
  rw[if_neg (by simp),ht]
end
end Go.Ab
namespace Go.Proofs.YtjdmodeenbdfpaaGreat
open Go Go.Ab
def Nb (k:Nat)(z:Int):Prop:=z.natAbs<10 ^ k
def Rb (k:Nat)(x:Rat):Prop:=Nb k x.num∧Nb k x.den
theorem Nb.mono {j k:Nat}{z:Int}(h:Nb j z)(hk:j≤k):Nb k z:=Nat.lt_of_lt_of_le h (Nat.pow_le_pow_right (by omega) hk)
theorem Rb.mono {j k:Nat}{z:Rat}(h:Rb j z)(hk:j≤k):Rb k z:=⟨h.1.mono hk,h.2.mono hk⟩
theorem Nb.sm {k:Nat}{z:Int}(h:Nb k z)(hk:k≤2000000):Sm z:=by
 have h1:z.natAbs<1000000000 ^ (k / 9+1):=by
  refine Nat.lt_of_lt_of_le h ?_
  have:(1000000000:Nat)=10 ^ 9:=by decide
  rw[this,← Nat.pow_mul]
  exact Nat.pow_le_pow_right (by omega) (by omega)
 exact Nat.lt_of_le_of_lt (da h1) (by omega)
theorem Nb.smB {k:Nat}{z:Int}(h:Nb k z)(hk:k≤2000000):smB z=true:=by
 unfold YtjdmodeenbdfpaaGreat.smB
 rw[Nat.blt_eq]
 have hN:0<11000000:=by decide
 have hK:4*k≤11000000:=by omega
 generalize 11000000=N at hN hK ⊢
 by_cases h0:z.natAbs=0
 ·rw[h0];exact hN
 ·rw[Nat.log2_lt h0]
  refine Nat.lt_of_lt_of_le h ?_
  have:(10:Nat) ^ k≤16 ^ k:=Nat.pow_le_pow_left (by omega) k
  refine Nat.le_trans this ?_
  have e:(16:Nat)=2 ^ 4:=by decide
  rw[e,← Nat.pow_mul]
  exact Nat.pow_le_pow_right (by decide) hK
theorem Nb.dN {k:Nat}{z:Int}(h:Nb k z):dN z≤k+1:=by
 unfold Ab.dN
 rw[rK (by omega)]
 exact Nat.lt_of_lt_of_le h (Nat.pow_le_pow_right (by omega) (by omega))
theorem Nb.zm {k:Nat}{z:Int}(h:Nb k z)(hk:k≤2000000):Zm z:=by
 unfold Zm
 rw[gk]
 have:=h.dN
 unfold eL
 cases bt z <;> simp <;> omega
theorem Nb.zmB {k:Nat}{z:Int}(h:Nb k z)(hk:k≤2000000):zmB z=true:=by
 unfold YtjdmodeenbdfpaaGreat.zmB
 rw[Nat.ble_eq]
 exact h.zm hk
theorem Nb.mul {j k:Nat}{x y:Int}(h:Nb j x)(h':Nb k y):Nb (j+k) (x*y):=by
 unfold Nb at *
 rw[Int.natAbs_mul,Nat.pow_add]
 exact Nat.mul_lt_mul'' h h'
theorem Nb.add {k:Nat}{x y:Int}(h:Nb k x)(h':Nb k y):Nb (k+1) (x+y):=by
 unfold Nb at *
 have:=Int.natAbs_add_le x y
 rw[Nat.pow_succ]
 omega
theorem Nb.neg {k:Nat}{x:Int}(h:Nb k x):Nb k (-x):=by unfold Nb at *;rw[Int.natAbs_neg];exact h
theorem Nb.div {k:Nat}{x:Int}(h:Nb k x)(g:Nat):Nb k (x / g):=by
 unfold Nb at *
 refine Nat.lt_of_le_of_lt ?_ h
 exact Int.natAbs_ediv_le_natAbs x g
theorem Nb.den {k:Nat}{x:Rat}(h:Rb k x):Nb k x.den:=h.2
theorem pt (x y:Rat):pw (x.num*y.den+y.num*x.den) (x.den*y.den)=(x+y).num:=by
 rw[Rat.add_def,Rat.normalize_eq]
 simp only[pw,Int.natAbs_mul,Int.natAbs_natCast]
theorem px (x y:Rat):oA (x.num*y.den+y.num*x.den) (x.den*y.den)=((x+y).den:Int):=by
 rw[Rat.add_def,Rat.normalize_eq]
 simp only[oA,Int.natAbs_mul,Int.natAbs_natCast]
 simp
theorem uZ (x y:Rat):pw (x.num*y.num) (x.den*y.den)=(x*y).num:=by
 rw[Rat.mul_def,Rat.normalize_eq]
 simp only[pw,Int.natAbs_mul,Int.natAbs_natCast]
theorem u0 (x y:Rat):oA (x.num*y.num) (x.den*y.den)=((x*y).den:Int):=by
 rw[Rat.mul_def,Rat.normalize_eq]
 simp only[oA,Int.natAbs_mul,Int.natAbs_natCast]
 simp
theorem Rb.mul {j k:Nat}{x y:Rat}(h:Rb j x)(h':Rb k y):Rb (j+k) (x*y):=by
 constructor
 ·rw[← uZ];exact (h.1.mul h'.1).div _
 ·rw[← u0];exact (h.2.mul h'.2).div _
theorem Rb.add {j k:Nat}{x y:Rat}(h:Rb j x)(h':Rb k y):Rb (j+k+1) (x+y):=by
 constructor
 ·rw[← pt]
  refine (Nb.add (h.1.mul h'.2) ?_).div _
  rw[Nat.add_comm]
  exact h'.1.mul h.2
 ·rw[← px];exact ((h.2.mul h'.2).div _).mono (by omega)
theorem Rb.neg {k:Nat}{x:Rat}(h:Rb k x):Rb k (-x):=by
 constructor
 ·rw[Rat.neg_num];exact h.1.neg
 ·rw[Rat.neg_den];exact h.2
theorem Rb.sub {j k:Nat}{x y:Rat}(h:Rb j x)(h':Rb k y):Rb (j+k+1) (x - y):=by
 rw[Rat.sub_eq_add_neg];exact h.add h'.neg
theorem Rb.zero (k:Nat):Rb (k+1) 0:=⟨Nat.pow_pos (by omega),Nat.one_lt_pow (by omega) (by omega)⟩
theorem Rb.one (k:Nat):Rb (k+1) 1:=⟨Nat.one_lt_pow (by omega) (by omega),Nat.one_lt_pow (by omega) (by omega)⟩
def rv:Option Rat→PV
 | none=>bV 0 0
 | some x=>bV x.num x.den
def vv:Option Rat→Rat
 | none=>0
 | some x=>x
theorem WH (u:Option Rat):∃ b,rv u=bV (vv u).num b∧du b=(vv u).den∧(∀ k,Rb (k+1) (vv u)→Nb (k+1) b):=by
 cases u with
 | none=>exact⟨0,rfl,rfl,fun k _=>Nat.pow_pos (by omega)⟩
 | some x =>
  refine⟨x.den,rfl,?_,fun k h=>h.2⟩
  have:=x.den_pos
  unfold du
  rw[if_neg (by omega)]
  rfl
theorem iW (n d:Int)(h:0<d):kc n d=pw n d∧kd n d=oA n d:=by
 have hg:n.natAbs % Nat.gcd n.natAbs d.natAbs=0:=Nat.mod_eq_zero_of_dvd (Nat.gcd_dvd_left _ _)
 have hg0:0<Nat.gcd n.natAbs d.natAbs:=Nat.gcd_pos_of_pos_right _ (by omega)
 unfold kc kd pw oA
 have hn:bt d=false:=by rw[cI];simp;omega
 rw[hn,cond_false]
 generalize Nat.gcd n.natAbs d.natAbs=g at *
 constructor
 ·obtain⟨q,hq⟩:=Nat.dvd_of_mod_eq_zero hg
  have hq2:n.natAbs / g=q:=by rw[hq];exact Nat.mul_div_cancel_left _ (by omega)
  rw[hq2]
  unfold sgn
  rw[cI]
  have hgq:((g*q:Nat):Int)=(g:Int)*q:=by simp
  by_cases hs:n<0
  ·have h2:n=(g:Int)*(-(q:Int)):=by
    rw[Int.mul_neg,← hgq,← hq];omega
   rw[decide_eq_true hs,cond_true,Int.negOfNat_eq]
   conv=>rhs;rw[h2]
   rw[Int.mul_ediv_cancel_left _ (by omega)]
   rfl
  ·have h2:n=(g:Int)*(q:Int):=by
    rw[← hgq,← hq];omega
   rw[decide_eq_false hs,cond_false]
   conv=>rhs;rw[h2]
   rw[Int.mul_ediv_cancel_left _ (by omega)]
   rfl
 ·obtain⟨m,rfl⟩:=Int.eq_ofNat_of_zero_le (Int.le_of_lt h)
  simp
theorem fT (n d:Int)(h:0<d):(Rat.divInt n d).num=pw n d∧((Rat.divInt n d).den:Int)=oA n d:=by
 obtain⟨m,rfl⟩:=Int.eq_ofNat_of_zero_le (Int.le_of_lt h)
 rw[Rat.divInt_ofNat,Rat.mkRat_def,dif_neg (by omega),Rat.normalize_eq]
 exact⟨rfl,by simp[oA]⟩
theorem sX (n d:Int)(h:d≠0):kc n d=(Rat.divInt n d).num∧kd n d=(Rat.divInt n d).den:=by
 by_cases hd:0<d
 ·rw[(iW n d hd).1,(iW n d hd).2,(fT n d hd).1,(fT n d hd).2];exact⟨rfl,rfl⟩
 ·have e1:kc n d=kc (-n) (-d):=by
   have h1:bt d=true:=by rw[cI];simp;omega
   have h2:bt (-d)=false:=by rw[cI];simp;omega
   unfold kc
   rw[h1,h2,Int.natAbs_neg,Int.natAbs_neg]
   rfl
  have e2:kd n d=kd (-n) (-d):=by unfold kd;rw[Int.natAbs_neg,Int.natAbs_neg]
  rw[e1,e2,← Rat.neg_divInt_neg,(iW _ _ (by omega:0 < -d)).1,(iW _ _ (by omega:0 < -d)).2,(fT _ _ (by omega:0 < -d)).1,(fT _ _ (by omega:0 < -d)).2]
  exact⟨rfl,rfl⟩
theorem wV (x y:Rat):x / y=Rat.divInt (x.num*y.den) (x.den*y.num):=by
 rw[Rat.div_def,Rat.inv_def]
 conv=>lhs;rw[← Rat.num_divInt_den x]
 rw[Rat.divInt_mul_divInt]
def CK (x y:Rat):Int:=if x<y then -1 else if x=y then 0 else 1
theorem Es (x y:Rat):fD (x.num*y.den) (y.num*x.den)=CK x y:=by
 unfold fD CK
 by_cases h:x<y
 ·rw[if_pos h,if_pos ((Rat.lt_iff x y).1 h)]
 ·rw[if_neg h,if_neg (fun e=>h ((Rat.lt_iff x y).2 e))]
  have hi:x.num*y.den=y.num*x.den ↔ x=y:=by
   constructor
   ·intro e
    have h1:x≤y:=(Rat.le_iff x y).2 (Int.le_of_eq e)
    have h2:y≤x:=(Rat.le_iff y x).2 (Int.le_of_eq e.symm)
    exact Rat.le_antisymm h1 h2
   ·intro e;rw[e]
  by_cases h2:x=y
  ·rw[if_pos h2,if_pos (hi.2 h2)]
  ·rw[if_neg h2,if_neg (fun e=>h2 (hi.1 e))]
def eN (x:Rat):Int:=x.num.sign
theorem ob {u:Option Rat}{k:Nat}(h:Rb k (vv u))(hk:k≤2000000):∃ b,rv u=bV (vv u).num b∧du b=(vv u).den∧gF (rv u)=some ((vv u).num,b)∧Nb k b:=by
 obtain⟨b,h1,h2,h3⟩:=WH u
 cases u with
 | none =>
  refine⟨0,rfl,rfl,gT (h.1.sm hk) (by unfold Sm;decide),Nat.pow_pos (by omega)⟩
 | some x =>
  have:=x.den_pos
  refine⟨x.den,rfl,?_,gT (h.1.sm hk) (h.2.sm hk),h.2⟩
  unfold du
  rw[if_neg (by omega)]
  rfl
theorem nD (x:Rat):rv (some x)=bV x.num x.den:=rfl
theorem HG (x:Rat):(x.den:Int)≠0:=by have:=x.den_pos;omega
theorem ze (n:Int)(x y:Rat):pH n (x.den*y.den)=true:=by
 have h1:=x.den_pos
 have h2:=y.den_pos
 unfold pH
 rw[Int.natAbs_mul,Int.natAbs_natCast,Int.natAbs_natCast]
 have:x.den*y.den≠0:=Nat.ne_of_gt (Nat.mul_pos h1 h2)
 simp only[Bool.not_eq_true']
 cases e:(x.den*y.den).beq 0 with
 | false=>rfl
 | true=>exact absurd (Nat.eq_of_beq_eq_true e) this
theorem CM {u v:Option Rat}{j k:Nat}(hu:Rb j (vv u))(hv:Rb k (vv v))(h:j+k≤1000000):iT [rv u,rv v]=some [rv (some (vv u+vv v))]:=by
 obtain⟨b,b1,b2,b3,b4⟩:=ob hu (by omega)
 obtain⟨d,d1,d2,d3,d4⟩:=ob hv (by omega)
 have g1:=hu.1.mul hv.2
 have g2:=hv.1.mul hu.2
 rw[Nat.add_comm k j] at g2
 have g3:=hu.2.mul hv.2
 have g4:=ze ((vv u).num*(vv v).den+(vv v).num*(vv u).den) (vv u) (vv v)
 have hp:(0:Int)<(vv u).den*(vv v).den:=Int.mul_pos (by have:=(vv u).den_pos;omega) (by have:=(vv v).den_pos;omega)
 simp only[iT,b3,d3,b2,d2,g1.smB (by omega),g2.smB (by omega),(g1.add g2).smB (by omega),g3.smB (by omega),g4,Bool.and_self,cond_true,nD,(iW _ _ hp).1,(iW _ _ hp).2,pt,px]
theorem PN {u v:Option Rat}{j k:Nat}(hu:Rb j (vv u))(hv:Rb k (vv v))(h:j+k≤1000000):mq [rv u,rv v]=some [rv (some (vv u*vv v))]:=by
 obtain⟨b,b1,b2,b3,b4⟩:=ob hu (by omega)
 obtain⟨d,d1,d2,d3,d4⟩:=ob hv (by omega)
 have g1:=hu.1.mul hv.1
 have g3:=hu.2.mul hv.2
 have g4:=ze ((vv u).num*(vv v).num) (vv u) (vv v)
 have hp:(0:Int)<(vv u).den*(vv v).den:=Int.mul_pos (by have:=(vv u).den_pos;omega) (by have:=(vv v).den_pos;omega)
 simp only[mq,b3,d3,b2,d2,g1.smB (by omega),g3.smB (by omega),g4,Bool.and_self,cond_true,nD,(iW _ _ hp).1,(iW _ _ hp).2,uZ,u0]
def FY:Option Rat→Option Rat
 | none=>none
 | some x=>some (-x)
theorem OB (u:Option Rat):vv (FY u) = - vv u:=by cases u <;> rfl
theorem Cy {u:Option Rat}{j:Nat}(hu:Rb j (vv u))(h:j≤1000000):j0 [rv u]=some [rv (FY u)]:=by
 obtain⟨b,b1,b2,b3,b4⟩:=ob hu (by omega)
 cases u with
 | none=>rfl
 | some x =>
  have h2:gF (bV x.num x.den)=some (x.num,(x.den:Int)):=gT (hu.1.sm (by omega)) (hu.2.sm (by omega))
  simp only[j0,nD,h2,FY,Rat.neg_num,Rat.neg_den]
theorem yw {u:Option Rat}{j:Nat}(hu:Rb j (vv u))(h:j≤1000000):jj [rv u]=some [Ab.bC (eN (vv u))]:=by
 obtain⟨b,b1,b2,b3,b4⟩:=ob hu (by omega)
 simp only[jj,b3,eN]
theorem PI {u v:Option Rat}{j k:Nat}(hu:Rb j (vv u))(hv:Rb k (vv v))(h:j+k≤1000000):uV [rv u,rv v]=some [rv (some (vv u - vv v))]:=by
 obtain⟨d,d1,d2,d3,d4⟩:=ob hv (by omega)
 have e:bV (-(vv v).num) d=rv (FY v):=by
  have h1:=Cy hv (by omega)
  simp only[j0,d3,Option.some.injEq,List.cons.injEq,and_true] at h1
  exact h1
 have h2:Rb k (vv (FY v)):=by rw[OB];exact hv.neg
 simp only[uV,d3,e,CM hu h2 h,OB,Rat.sub_eq_add_neg]
theorem qj (u:Option Rat):canon (rv u)=rv u:=by cases u <;> exact Bn _ _
theorem zY (u:Option Rat):aJ [rv u]=[rv u]:=by simp only[aJ,qj]
theorem NL (u v:Option Rat):aJ [rv u,rv v]=[rv u,rv v]:=by simp only[aJ,qj]
theorem V6 (hp:List Blk)(d:Nat)(u:Option Rat):Ab.snap hp (d+2) (rv u)=some (rv u,[]):=by cases u <;> rfl
theorem uz (hp:List Blk)(u:Option Rat):bq (snap hp bj) [rv u]=some ([rv u],[]):=by cases u <;> rfl
theorem OX (hp:List Blk)(u v:Option Rat):bq (snap hp bj) [rv u,rv v]=some ([rv u,rv v],[]):=by cases u <;> cases v <;> rfl
theorem Ww:base.shared 55=false:=by kernel_rfl
theorem Wx:base.shared 56=false:=by kernel_rfl
theorem Cm:base.shared 49=false:=by kernel_rfl
theorem aec {L:Lst}(hL:bu L 55=fun a=>uV (aJ a))(run:aq){u v:Option Rat}{j k:Nat}(hu:Rb j (vv u))(hv:Rb k (vv v))(h:j+k≤1000000):ar L run 55 [rv u,rv v] (rv (some (vv u - vv v))):=fun dr hp =>
 bp Ww hL run dr hp _ [rv (some (vv u - vv v))] (OX hp u v) (NL u v) (PI hu hv h)
theorem Kz {L:Lst}(hL:bu L 49=fun a=>jj (aJ a))(run:aq){u:Option Rat}{j:Nat}(hu:Rb j (vv u))(h:j≤1000000):ar L run 49 [rv u] (Ab.bC (eN (vv u))):=fun dr hp =>
 bp Cm hL run dr hp _ [Ab.bC (eN (vv u))] (uz hp u) (zY u) (yw hu h)
end Go.Proofs.YtjdmodeenbdfpaaGreat
namespace Go.Ab
open Go
theorem Nw {x:Nat}(h:kZ x=true):dv x+48=x:=by rw[dx] at h;unfold dv;omega
theorem TU {ds:List Nat}(h:eI ds=true):(dvs ds).reverse.map (· + 48)=ds:=by
 rw[dvs,List.reverse_reverse,List.map_map]
 conv=>rhs;rw[← List.map_id ds]
 refine List.map_congr_left fun x hx => ?_
 exact Nw (fC h hx)
theorem Zx {ds:List Nat}(hd:eI ds=true)(h2:∀ a l,ds=a::l→a≠48):T.Top (dvs ds):=by
 intro m a e
 cases ds with
 | nil=>simp[dvs] at e
 | cons b l =>
  rw[wT] at e
  have:=(List.append_inj' e rfl).2
  simp only[List.cons.injEq,and_true] at this
  subst this
  have h3:=dx.1 (fC hd (List.mem_cons_self))
  have h4:=h2 b l rfl
  unfold dv
  omega
theorem J2 {m:Bool}{ds:List Nat}(hd:eI ds=true)(h0:ds≠[])(h1:m=true→ds≠[48])(h2:∀ a b l,ds=a::b::l→a≠48):(bif m then [45] else [])++ds=ztx (gG m (dec 0 ds)):=by
 rw[← tS]
 by_cases h:ds=[48]
 ·subst h
  cases m with
  | true=>exact absurd rfl (h1 rfl)
  | false=>rfl
 ·have hh:∀ a l,ds=a::l→a≠48:=by
   intro a l e
   cases l with
   | nil=>rw[e] at h;intro ea;exact h (by rw[ea])
   | cons b l=>exact h2 a b l e
  have ht:=Zx hd hh
  have hne:dvs ds≠[]:=by
   intro e
   have:=congrArg List.length e
   rw[lP] at this
   exact h0 (List.length_eq_zero_iff.1 this)
  have hv:=ht.pb hne
  rw[tF] at hv
  unfold itx
  rw[if_neg hv,← tF,T.jN (Hz hd) ht,TU hd]
theorem TW (n:Nat):dtx n≠[]:=by
 intro e
 have:=congrArg List.length e
 unfold dtx at this
 split at this
 ·simp at this
 ·rename_i h
  have h2:=T.cP.2 h
  rw[List.length_map,List.length_reverse,List.length_nil] at this
  omega
theorem TX {n:Nat}{a:Nat}{l:List Nat}(h:dtx n=a::l)(hn:n≠0):a≠48:=by
 unfold dtx at h
 rw[if_neg hn] at h
 have ht:=T.ja n
 have e:T.aA n=l.reverse.map (· - 48)++[a - 48]:=by
  have h3:=congrArg (fun x=>(x.map (· - 48)).reverse) h
  simp only[List.map_map,List.reverse_cons,List.map_cons] at h3
  have h4:((fun x=>x - 48) ∘ fun x=>x+48)=(id:Nat→Nat):=by funext x;simp
  rw[h4,List.map_id,List.reverse_reverse] at h3
  rw[h3,List.map_reverse]
 have h5:=ht _ _ e
 omega
theorem TV {n:Nat}(h:dtx n=[48]):n=0:=by
 by_cases hn:n=0
 ·exact hn
 ·exact absurd rfl (TX h hn)
theorem pX {n a b:Nat}{l:List Nat}(h:dtx n=a::b::l):a≠48:=by
 by_cases hn:n=0
 ·subst hn;simp[dtx] at h
 ·exact TX h hn
theorem Zz {n m:Nat}(h:dtx n=dtx m):n=m:=by rw[← nR n,← nR m,h]
theorem oZ {x y:Int}(h:ztx x=ztx y):x=y:=by
 obtain⟨m,h1,rfl⟩:=mj x
 obtain⟨k,h2,rfl⟩:=mj y
 rw[h,h2] at h1
 simp only[Option.some.injEq,Prod.mk.injEq] at h1
 have h3:=Zz h1.2
 rw[← gY x,← gY y,h1.1,h3]
theorem Ju {z:Int}(h:bt z=true):dtx z.natAbs≠[48]:=by
 intro e
 have:=TV e
 rw[cI] at h
 simp at h
 omega
theorem He {l m:List Nat}(hl:Bok l)(hm:Bok m)(h:tx l=tx m):l=m:=by
 rw[← jm hl,← jm hm,h]
end Go.Ab
