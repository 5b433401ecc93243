/- Contracts of the reference and of the law, part 51 of the proof; each lemma states its own conditions. -/
import Derived.Test.YtjdmodeenbdfpaaGreatT50
import Derived.Test.YtjdmodeenbdfpaaGreatT47
set_option linter.unusedSimpArgs false
set_option linter.unusedVariables false
noncomputable section
namespace Go.Proofs.YtjdmodeenbdfpaaGreat
open Go Go.Ab List Tryz
attribute [local simp] FzZ aA aF aG aH aL aa ab ae af ag ai aj an ao aq az
variable(L:Lst)(run:ar)(k:Nat)(fr:List PV)(hp:List Blk)(wr:List Nat)
theorem QQ (x:Rat):0≤x*x:=by
 by_cases h:0≤x
 ·exact Rat.mul_nonneg h h
 ·have h':0 ≤ -x:=by grind
  have:=Rat.mul_nonneg h' h'
  grind
theorem sq3 {x y z:Rat}(h:x*x+y*y+z*z=0):x=0∧y=0∧z=0:=by
 have hx:=QQ x
 have hy:=QQ y
 have hz:=QQ z
 have e1:x*x=0:=by grind
 have e2:y*y=0:=by grind
 have e3:z*z=0:=by grind
 have f:∀ {u:Rat},u*u=0→u=0:=fun {u} e=>by
  rcases Rat.mul_eq_zero.1 e with e | e <;> exact e
 exact⟨f e1,f e2,f e3⟩
def dt3 (a b:List Rat):Rat:=a.getD 0 0*b.getD 0 0+a.getD 1 0*b.getD 1 0+a.getD 2 0*b.getD 2 0
theorem aiP {a b:List Rat}{m:Nat}(ha:a.length=m)(hb:b.length=m)(hm:m≤3):dot a b=dt3 a b:=by
 unfold dot dt3
 rw[ha]
 have:m=0∨m=1∨m=2∨m=3:=by omega
 rcases this with rfl | rfl | rfl | rfl
 ·rw[jx (X:=a) (i:=0) (by omega),jx (X:=a) (i:=1) (by omega),jx (X:=a) (i:=2) (by omega)]
  simp only[rH];grind
 ·rw[jx (X:=a) (i:=1) (by omega),jx (X:=a) (i:=2) (by omega)]
  simp only[rH];grind
 ·rw[jx (X:=a) (i:=2) (by omega)]
  simp only[rH];grind
 ·simp only[rH];grind
def jW (R:List (List Rat)):List (List Rat):=R.map fun a=>R.map fun b=>dot a b
theorem cb3 (b c d x y z:List Rat):dt3 b x*(dt3 c y*dt3 d z - dt3 c z*dt3 d y) - dt3 b y*(dt3 c x*dt3 d z - dt3 c z*dt3 d x)+dt3 b z*(dt3 c x*dt3 d y - dt3 c y*dt3 d x)=tri b c d*tri x y z:=by
 unfold dt3 tri cr1 cr2 cr3
 generalize b.getD 0 0=b0,b.getD 1 0=b1,b.getD 2 0=b2,c.getD 0 0=c0,c.getD 1 0=c1,c.getD 2 0=c2,d.getD 0 0=d0,d.getD 1 0=d1,d.getD 2 0=d2
 generalize x.getD 0 0=x0,x.getD 1 0=x1,x.getD 2 0=x2,y.getD 0 0=y0,y.getD 1 0=y1,y.getD 2 0=y2,z.getD 0 0=z0,z.getD 1 0=z1,z.getD 2 0=z2
 grind
theorem aiz (a:List Rat):dt3 a a=0 ↔ ¬ nz a:=by
 constructor
 ·intro h hn
  obtain⟨e0,e1,e2⟩:=sq3 h
  rcases hn with hn | hn | hn
  ·exact hn e0
  ·exact hn e1
  ·exact hn e2
 ·intro h
  obtain⟨e0,e1,e2⟩:=BO h
  unfold dt3
  rw[e0,e1,e2];grind
theorem aiy (a b:List Rat):dt3 a a*dt3 b b - dt3 a b*dt3 b a=0 ↔ ¬ rB a b:=by
 have e:dt3 a a*dt3 b b - dt3 a b*dt3 b a=cr1 a b*cr1 a b+cr2 a b*cr2 a b+cr3 a b*cr3 a b:=by
  unfold dt3 cr1 cr2 cr3
  grind
 rw[e]
 constructor
 ·intro h hn
  obtain⟨e0,e1,e2⟩:=sq3 h
  rcases hn with hn | hn | hn
  ·exact hn e0
  ·exact hn e1
  ·exact hn e2
 ·intro h
  obtain⟨e0,e1,e2⟩:=jI h
  rw[e0,e1,e2];grind
theorem aix (a b c d:List Rat):dt3 a a*(tri b c d*tri b c d) - dt3 a b*(tri b c d*tri a c d)+dt3 a c*(tri b c d*tri a b d) - dt3 a d*(tri b c d*tri a b c)=0:=by
 have k0:=mh a b c d 0 (by omega)
 have k1:=mh a b c d 1 (by omega)
 have k2:=mh a b c d 2 (by omega)
 unfold dt3
 generalize tri b c d=t at *
 generalize tri a c d=u at *
 generalize tri a b d=v at *
 generalize tri a b c=w at *
 grind
theorem dM1 (a:Rat):dMv 1 [[a]]=a:=by rw[adw,ads];rfl
theorem dM2 (a0 a1 b0 b1:Rat):dMv 2 [[a0,a1],[b0,b1]]=a0*b1 - a1*b0:=by rw[adv,adr];rfl
theorem dM3 (a0 a1 a2 b0 b1 b2 c0 c1 c2:Rat):dMv 3 [[a0,a1,a2],[b0,b1,b2],[c0,c1,c2]]=a0*(b1*c2 - b2*c1) - a1*(b0*c2 - b2*c0)+a2*(b0*c1 - b1*c0):=by rw[adu,adq];rfl
theorem rk1 (a:List Rat):rkM [a]=1 ↔ nz a:=by
 constructor
 ·intro h
  rcases dV [a] with ⟨e,-⟩| ⟨e,-⟩| ⟨e,-,n⟩| ⟨e,-⟩
  ·omega
  ·omega
  ·obtain⟨x,hx,hn⟩:=n
   rw[mem_singleton] at hx
   rw[← hx];exact hn
  ·omega
 ·intro h
  refine Bt ?_ ⟨a,by simp,h⟩
  rintro⟨x,hx,y,hy,hi⟩
  rw[mem_singleton] at hx hy
  rw[hx,hy] at hi
  exact AF a hi
theorem rk2 (a b:List Rat):rkM [a,b]=2 ↔ rB a b:=by
 constructor
 ·intro h
  rcases dV [a,b] with ⟨e,-⟩| ⟨e,-,n⟩| ⟨e,-⟩| ⟨e,-⟩
  ·omega
  ·obtain⟨x,hx,y,hy,hn⟩:=n
   simp only[mem_cons,not_mem_nil,or_false] at hx hy
   refine Classical.byContradiction fun hc => ?_
   obtain⟨e1,e2,e3⟩:=jI hc
   unfold cr1 at e1
   unfold cr2 at e2
   unfold cr3 at e3
   unfold rB cr1 cr2 cr3 at hn
   rcases hx with rfl | rfl <;> rcases hy with rfl | rfl <;> grind
  ·omega
  ·omega
 ·intro h
  refine Bs ?_ ⟨a,by simp,b,by simp,h⟩
  rintro⟨x,hx,y,hy,z,hz,hi⟩
  simp only[mem_cons,not_mem_nil,or_false] at hx hy hz
  unfold tri cr1 cr2 cr3 at hi
  rcases hx with rfl | rfl <;> rcases hy with rfl | rfl <;> rcases hz with rfl | rfl <;> grind
theorem rk3 (a b c:List Rat):rkM [a,b,c]=3 ↔ tri a b c≠0:=by
 constructor
 ·intro h
  rcases dV [a,b,c] with ⟨e,n⟩| ⟨e,-⟩| ⟨e,-⟩| ⟨e,-⟩
  ·obtain⟨x,hx,y,hy,z,hz,hi⟩:=n
   simp only[mem_cons,not_mem_nil,or_false] at hx hy hz
   intro e0
   unfold tri cr1 cr2 cr3 at hi e0
   rcases hx with rfl | rfl | rfl <;> rcases hy with rfl | rfl | rfl <;> rcases hz with rfl | rfl | rfl <;> grind
  ·omega
  ·omega
  ·omega
 ·intro h
  exact wK ⟨a,by simp,b,by simp,c,by simp,h⟩
theorem Zk (M:List (List Rat)):rkM M≤3:=by
 rcases dV M with ⟨e,-⟩| ⟨e,-⟩| ⟨e,-⟩| ⟨e,-⟩ <;> omega
theorem ab8 {m n:Nat}{R:List (List Rat)}(hm:m≤3)(hR:∀ a ∈ R,a.length=m)(hn:R.length=n)(h1:1≤n)(h4:n≤4):dMv n (jW R)≠0 ↔ rkM R=n:=by
 have hd:∀ a ∈ R,∀ b ∈ R,dot a b=dt3 a b:=fun a ha b hb=>aiP (hR a ha) (hR b hb) hm
 have:n=1∨n=2∨n=3∨n=4:=by omega
 rcases this with rfl | rfl | rfl | rfl
 ·obtain⟨a,S,rfl,hS⟩:=lnn 0 hn
  obtain rfl:=eq_nil_of_length_eq_zero hS
  simp only[jW,map_cons,map_nil,hd a (by simp) a (by simp)]
  rw[dM1,rk1,Ne,aiz,Classical.not_not]
 ·obtain⟨a,S,rfl,hS⟩:=lnn 1 hn
  obtain⟨b,S',rfl,hS'⟩:=lnn 0 hS
  obtain rfl:=eq_nil_of_length_eq_zero hS'
  simp only[jW,map_cons,map_nil,hd a (by simp) a (by simp),hd a (by simp) b (by simp),hd b (by simp) a (by simp),hd b (by simp) b (by simp)]
  rw[dM2,rk2,Ne,aiy,Classical.not_not]
 ·obtain⟨a,S,rfl,hS⟩:=lnn 2 hn
  obtain⟨b,S',rfl,hS'⟩:=lnn 1 hS
  obtain⟨c,S'',rfl,hS''⟩:=lnn 0 hS'
  obtain rfl:=eq_nil_of_length_eq_zero hS''
  have d:=fun x hx y hy=>hd x hx y hy
  simp only[jW,map_cons,map_nil,hd a (by simp) a (by simp),hd a (by simp) b (by simp),hd a (by simp) c (by simp),hd b (by simp) a (by simp),hd b (by simp) b (by simp),hd b (by simp) c (by simp),hd c (by simp) a (by simp),hd c (by simp) b (by simp),hd c (by simp) c (by simp)]
  rw[dM3,rk3,cb3 a b c a b c]
  constructor
  ·intro h e;exact h (by rw[e,Rat.mul_zero])
  ·intro h e
   rcases Rat.mul_eq_zero.1 e with e | e <;> exact h e
 ·have h3:=Zk R
  obtain⟨a,S,rfl,hS⟩:=lnn 3 hn
  obtain⟨b,S1,rfl,hS1⟩:=lnn 2 hS
  obtain⟨c,S2,rfl,hS2⟩:=lnn 1 hS1
  obtain⟨d,S3,rfl,hS3⟩:=lnn 0 hS2
  obtain rfl:=eq_nil_of_length_eq_zero hS3
  have key:dMv 4 (jW [a,b,c,d])=0:=by
   have e:=aix a b c d
   rw[← cb3 b c d b c d,← cb3 b c d a c d,← cb3 b c d a b d,← cb3 b c d a b c] at e
   simp only[jW,map_cons,map_nil,hd a (by simp) a (by simp),hd a (by simp) b (by simp),hd a (by simp) c (by simp),hd a (by simp) d (by simp),hd b (by simp) a (by simp),hd b (by simp) b (by simp),hd b (by simp) c (by simp),hd b (by simp) d (by simp),hd c (by simp) a (by simp),hd c (by simp) b (by simp),hd c (by simp) c (by simp),hd c (by simp) d (by simp),hd d (by simp) a (by simp),hd d (by simp) b (by simp),hd d (by simp) c (by simp),hd d (by simp) d (by simp)]
   rw[adt,adp]
   exact e
  constructor
  ·intro h;exact absurd key h
  ·intro h;omega
theorem YH {P B:List (List Rat)}{v:List Rat}(hs:∀ a ∈ B,a ∈ P)(h1:rkM B=rkM P)(h2:rkM (B++[v])=rkM B):rkM (P++[v])=rkM P:=by
 have hm:∀ a,a ∈ P++[v]→a ∈ P∨a=v:=fun a ha=>by simpa using ha
 have hge:rkM P≤rkM (P++[v]):=qO fun a ha=>mem_append_left _ ha
 have h3:=Zk (P++[v])
 rcases dV P with ⟨e,-⟩| ⟨e,n3,-⟩| ⟨e,n2,-⟩| ⟨e,n1⟩
 ·omega
 ·have hB:rkM B=2:=by omega
  rcases dV B with ⟨e',-⟩| ⟨e',-,q⟩| ⟨e',-⟩| ⟨e',-⟩
  ·omega
  ·obtain⟨a,ha,b,hb,hi⟩:=q
   have hv:tri a b v=0:=Classical.byContradiction fun hc=>by
    have:=wK (M:=B++[v]) ⟨a,by simp[ha],b,by simp[hb],v,by simp,hc⟩
    omega
   have hp:∀ x,x ∈ P++[v]→tri a b x=0:=fun x hx=>by
    rcases hm x hx with hx | rfl
    ·exact Classical.byContradiction fun hc=>n3 ⟨a,hs a ha,b,hs b hb,x,hx,hc⟩
    ·exact hv
   have : ¬ Q3 (P++[v]):=by
    rintro⟨x,hx,y,hy,z,hz,hc⟩
    have ex:=hp x hx
    have ey:=hp y hy
    have ez:=hp z hz
    have k1:cr1 a b*tri x y z=tri a b x*cr1 y z+tri a b y*cr1 z x+tri a b z*cr1 x y:=by unfold tri cr1 cr2 cr3;grind
    have k2:cr2 a b*tri x y z=tri a b x*cr2 y z+tri a b y*cr2 z x+tri a b z*cr2 x y:=by unfold tri cr1 cr2 cr3;grind
    have k3:cr3 a b*tri x y z=tri a b x*cr3 y z+tri a b y*cr3 z x+tri a b z*cr3 x y:=by unfold tri cr1 cr2 cr3;grind
    rw[ex,ey,ez] at k1 k2 k3
    have z0:∀ w1 w2 w3:Rat,(0:Rat)*w1+0*w2+0*w3=0:=by intros;grind
    rw[z0] at k1 k2 k3
    rcases hi with hi | hi | hi
    ·exact hc (yT hi k1)
    ·exact hc (yT hi k2)
    ·exact hc (yT hi k3)
   rcases dV (P++[v]) with ⟨e',n⟩| ⟨e',-⟩| ⟨e',-⟩| ⟨e',-⟩
   ·exact absurd n this
   ·omega
   ·omega
   ·omega
  ·omega
  ·omega
 ·have hB:rkM B=1:=by omega
  rcases dV B with ⟨e',-⟩| ⟨e',-⟩| ⟨e',-,q⟩| ⟨e',-⟩
  ·omega
  ·omega
  ·obtain⟨b,hb,hi⟩:=q
   have hv:cr1 b v=0∧cr2 b v=0∧cr3 b v=0:=jI fun hc=>by
    have:=aej (M:=B++[v]) ⟨b,by simp[hb],v,by simp,hc⟩
    omega
   have hp:∀ x,x ∈ P++[v]→cr1 b x=0∧cr2 b x=0∧cr3 b x=0:=fun x hx=>by
    rcases hm x hx with hx | rfl
    ·exact jI fun hc=>n2 ⟨b,hs b hb,x,hx,hc⟩
    ·exact hv
   have : ¬ Q2 (P++[v]):=by
    rintro⟨x,hx,y,hy,hc⟩
    obtain⟨x1,x2,x3⟩:=hp x hx
    obtain⟨y1,y2,y3⟩:=hp y hy
    unfold cr1 at x1 y1
    unfold cr2 at x2 y2
    unfold cr3 at x3 y3
    unfold nz at hi
    unfold rB cr1 cr2 cr3 at hc
    generalize b.getD 0 0=b0,b.getD 1 0=b1,b.getD 2 0=b2 at *
    generalize x.getD 0 0=p0,x.getD 1 0=p1,x.getD 2 0=p2 at *
    generalize y.getD 0 0=q0,y.getD 1 0=q1,y.getD 2 0=q2 at *
    rcases hi with hi | hi | hi <;> rcases hc with hc | hc | hc <;> refine hc (yT hi (yT hi ?_)) <;> grind
   rcases dV (P++[v]) with ⟨e',n⟩| ⟨e',-,n⟩| ⟨e',-⟩| ⟨e',-⟩
   ·exact absurd n.q2 this
   ·exact absurd n this
   ·omega
   ·omega
  ·omega
 ·have hz:∀ x,x ∈ P++[v] → ¬ nz x:=fun x hx hn=>by
   rcases hm x hx with hx | rfl
   ·exact n1 ⟨x,hx,hn⟩
   ·have:=aek (M:=B++[x]) ⟨x,by simp,hn⟩
    omega
  rw[e,sC (by rintro⟨a,ha,hn⟩;exact hz a ha hn)]
def gbs (D:List (List Rat)):Nat→List (List Rat)
 | 0=>[]
 | j+1=>@ite _ (dMv (gbs D j++[D.getD j []]).length (jW (gbs D j++[D.getD j []]))≠0) (Classical.propDecidable _) (gbs D j++[D.getD j []]) (gbs D j)
theorem Iv {m:Nat}{D:List (List Rat)}(hm:m≤3)(hD:∀ a ∈ D,a.length=m):∀ j,j≤D.length→(∀ a ∈ gbs D j,a ∈ D.take j)∧rkM (gbs D j)=(gbs D j).length∧rkM (D.take j)=(gbs D j).length
 | 0,_=>by
  have hz:rkM ([]:List (List Rat))=0:=sC fun ⟨a,ha,_⟩=>by cases ha
  exact⟨fun a ha=>(by cases ha),hz,hz⟩
 | j+1,hj=>by
  obtain⟨h1,h2,h3⟩:=Iv hm hD j (by omega)
  have hv:D.getD j []=D[j]:=by rw[getD_eq_getElem?_getD,getElem?_eq_getElem (by omega)];rfl
  have ht:D.take (j+1)=D.take j++[D[j]]:=take_succ_eq_append_getElem (by omega)
  have h4:=Zk (gbs D j)
  have hB:∀ a ∈ gbs D j++[D[j]],a.length=m:=fun a ha=>by
   rcases mem_append.1 ha with ha | ha
   ·exact hD a (mem_of_mem_take (h1 a ha))
   ·rw[mem_singleton] at ha
    rw[ha];exact hD _ (getElem_mem _)
  have hf:=ab8 hm hB rfl (by simp) (by simp;omega)
  have hsn:=J8 (gbs D j) D[j]
  have hsn2:=J8 (D.take j) D[j]
  have hmo:rkM (gbs D j)≤rkM (gbs D j++[D[j]]):=qO fun a ha=>mem_append_left _ ha
  have hmo2:rkM (gbs D j++[D[j]])≤rkM (D.take j++[D[j]]):=qO fun a ha=>by
   rcases mem_append.1 ha with ha | ha
   ·exact mem_append_left _ (h1 a ha)
   ·exact mem_append_right _ ha
  have hl:(gbs D j++[D[j]]).length=(gbs D j).length+1:=by simp
  unfold gbs
  rw[hv,ht]
  by_cases hc:dMv (gbs D j++[D[j]]).length (jW (gbs D j++[D[j]]))≠0
  ·rw[if_pos hc]
   have:=hf.1 hc
   refine⟨fun a ha => ?_,this,by omega⟩
   rcases mem_append.1 ha with ha | ha
   ·exact mem_append_left _ (h1 a ha)
   ·exact mem_append_right _ ha
  ·rw[if_neg hc]
   have:rkM (gbs D j++[D[j]])≠(gbs D j++[D[j]]).length:=fun e=>hc (hf.2 e)
   refine⟨fun a ha=>mem_append_left _ (h1 a ha),h2,?_⟩
   rw[YH h1 (by omega) (by omega),h3]
theorem Cp:base.F.get 58=some f58:=by kernel_rfl
theorem GK:base.shared 58=false:=by kernel_rfl
def frC:Code:=f58.body.getD .skip
def frB:Code:=(aC frC).getD .skip
def frI:Code:=db frB
def OT:Code:=(aC frI).getD .skip
def aga:Code:=db OT
theorem ajJ:ah 2 frC = .seq (.seq (seq1 (seq1 (ah 2 frC))) (.block 0 (.loop frB))) (ah 3 frC):=rfl
theorem ajI:ah 1 frI = .seq (.seq (seq1 (seq1 (ah 1 frI))) (.block 2 (.loop OT))) (ah 2 frI):=rfl
theorem LZ:und TT 22=some (.slice 39):=by kernel_rfl
theorem ac6:∃ el,und TT 22=some (.slice el):=⟨_,LZ⟩
def PA (b:Nat)(hp:List Blk)(X:List Rat)(p:PV):Prop:=(X=[]∧p = .sc (.slice none 0 0))∨∃ id,b≤id∧p = .own id 1 0 X.length false∧aY hp id=some ⟨.live,X.map qt⟩
theorem PA.app {b:Nat}{hp:List Blk}{X:List Rat}{p:PV}(h:PA b hp X p)(hb:b≤hp.length)(x:Rat)(h9:X.length≤1000):∃ p' hp' fp,cJ hp 1 p 1 [qt x]=some (p',hp',fp)∧PA b hp' (X++[x]) p'∧(∀ i,i<b→aY hp' i=aY hp i)∧hp.length≤hp'.length:=by
 rcases h with ⟨rfl,rfl⟩| ⟨id,h1,rfl,h2⟩
 ·exact⟨.own hp.length 1 0 1 false,aM hp [qt x],⟨[],[hp.length],true,false⟩,by simp[cJ,cS],.inr ⟨hp.length,hb,rfl,al1 _ _⟩,fun i hi=>by rw[bK,if_neg (by omega)],by simp[aM]⟩
 ·have hid:=eO h2
  have ht:bF (br (X.map qt) 0) (X.length*1)=some (X.map qt):=by rw[cA,drop_zero,Nat.mul_one,dh (by simp),take_of_length_le (by simp)]
  have hm:X.length+1≤cS:=Nat.le_trans (Nat.succ_le_succ h9) (by decide)
  have hl:hp.length=(bZ hp id ⟨.dead,[]⟩).length:=(bL _ _ _).symm
  refine⟨.own hp.length 1 0 (X.length+1) false,aM (bZ hp id ⟨.dead,[]⟩) (X.map qt++[qt x]),⟨[],[id,hp.length],true,false⟩,?_,.inr ⟨hp.length,hb,by simp,?_⟩,fun i hi => ?_,by simp[aM,bL]⟩
  ·simp only[cJ,h2]
   rw[if_neg (by simp),ht]
   simp only
   rw[if_pos hm]
  ·rw[hl,map_append];exact al1 _ _
  ·rw[bK,if_neg (by rw[← hl];omega),jS h2 (by omega)]
theorem Vm (M:List (List Rat))(i:Nat)(hi:i<M.length):∃ r,bg TT 22 (qC M) (.sc (.int .i64 (i:Int)))=some (.iptr r)∧r.head?=some (qL M[i]):=by
 have hi':i<(M.map fun P=>P.map qb).length:=by simpa using hi
 refine⟨br ((M.map fun P=>P.map qb).flatMap ep) (i*1),?_,?_⟩
 ·unfold qC cE fg
  simp only[bg,LZ,bm,sPt,hi',if_true]
 ·rw[lh VT.toEl _ i hi',getElem_map];rfl
theorem aiA(R:List (List Rat))(X:List Rat)(b i j:Nat)(d:Rat)(hi:i<R.length)(hj:j<R.length)(hb:b≤hp.length)(h9:X.length≤100)(hX:PA b hp X (nth fr 5))(g:au L run 107 [qL R[i],qL R[j]] (qt d))(h0:fr.length=38)(h00:nth fr 0=qC R)(h4:nth fr 4=iv i)(h6:nth fr 6=iv j) :
  ∃ fr' hp' wr',af (CC L) run k (.block 3 aga) ⟨fr,hp,wr⟩=some (.normal,⟨fr',hp',wr'⟩)∧PA b hp' (X++[d]) (nth fr' 5)∧(∀ i,i<b→aY hp' i=aY hp i)∧hp.length≤hp'.length:=by
 obtain⟨r,x1,x2⟩:=Vm R i hi
 obtain⟨r2,y1,y2⟩:=Vm R j hj
 obtain⟨p',hp',fp,a1,a2,a3,a4⟩:=hX.app hb d (by omega)
 unfold au at g
 have ltd:eL TT 38 1 [(0,qt d)]=some (1,[qt d]):=by simp[eL,uRs,iQ,qw,rep,dA,cq,PV.cells?,qt]
 have idd:bU [qt d]=true:=rfl
 have d2:∀ hp,ew hp 1 (.imm 1 true [qt d])=some (1,[qt d],[]):=fun hp=>Kw hp _
 have okd:dk (qt d)=true:=rfl
 have fr0':=fr0
 generalize qt d=D at *
 generalize qL R[i]=u at *
 generalize qL R[j]=v at *
 simp only[iv] at h4 h6
 cases hfp:FP.free ⟨fp.rd,fp.wr,fp.al,false⟩ <;> simp[aga,OT,frI,frB,frC,db,f58,aC,partOf,bd,and_assoc,bh,h0,h00,h4,h6,x1,x2,y1,y2,g,ltd,idd,d2,okd,a1,a2,a4,uRs,iQ,Lx,qw,aPt,sPt,cg,aV,number,fr0',hfp]
 all_goals exact a3
theorem aiB(h0:fr.length=38):∃ fr1 fr',af (CC L) run k (seq1 frI) ⟨fr,hp,wr⟩=some (.normal,⟨fr1,hp,wr⟩)∧af (CC L) run k (seq1 (seq1 (ah 1 frI))) ⟨fr1,hp,wr⟩=some (.normal,⟨fr',hp,wr⟩)∧nth fr' 5 = .sc (.slice none 0 0)∧nth fr' 6=iv 0:=by
 refine⟨dR fr 5 (.sc (.slice none 0 0)),?_⟩
 simp[iv,seq1,ah,frI,frB,frC,db,f58,aC,h0]
theorem af8 (L:Lst)(run:ar)(k:Nat)(fr:List PV)(hp0 hp:List Blk)(wr:List Nat)(rows:List (List Rat))(p:PV)(X:List Rat)(q:Nat)(hg:Hgr hp0 hp)(hr9:rows.length≤100)(hR:Rst hp0 rows p)(hq:hp0.length≤q)(hX:aY hp q=some ⟨.live,X.map qt⟩)(h0:fr.length=38)(h3:nth fr 3=p)(h5:nth fr 5 = .own q 1 0 X.length false) :
  ∃ fr' hp' wr',af (CC L) run k (ah 2 frI) ⟨fr,hp,wr⟩=some (.normal,⟨fr',hp',wr'⟩)∧Rst hp' (rows++[X]) (nth fr' 3):=by
 have hql:=eO hX
 have a6':aY (aM hp [.own q 1 0 X.length false]) q=some ⟨.live,X.map qt⟩:=by rw[bK,if_neg (by omega)];exact hX
 obtain⟨p',hp4,fp4,b1,b2⟩:=hR.app (hg.trans (Hgr.new hp [.own q 1 0 X.length false])) hq a6' (by omega)
 have lt1:=U1 uZ (.own q 1 0 X.length false) rfl
 have id1:bU [PV.own q 1 0 X.length false]=false:=rfl
 have rd3:ew (aM hp [PV.own q 1 0 X.length false]) 1 (.own hp.length 1 0 1 true)=some (1,[PV.own q 1 0 X.length false],[hp.length]):=by
  simp[ew,al1,br,bF]
 generalize X.length=w at *
 simp[ah,frI,frB,frC,db,f58,aC,bd,and_assoc,kC,bh,h0,h3,h5,lt1,id1,rd3,b1,b2,uZ,sRs,bRs,zRs,cg]
theorem af9 (L:Lst)(run:ar)(k:Nat)(p:PV):∃ fr wr,aX (CC L) run k 2 frC ⟨entry 38 [p],[],[]⟩=some ⟨fr,[],wr⟩∧fr.length=38∧nth fr 0=p∧nth fr 3 = .sc (.slice none 0 0):=by
 obtain⟨e1,e2⟩:=cW 37 p
 generalize entry 38 [p]=fr0 at *
 simp[frC,f58,aX,and_assoc,e1,e2]
theorem aiC(h0:fr.length=38):∃ fr',af (CC L) run k (seq1 (seq1 (ah 2 frC))) ⟨fr,hp,wr⟩=some (.normal,⟨fr',hp,wr⟩)∧nth fr' 4=iv 0:=by
 simp[iv,seq1,ah,frC,f58,h0]
theorem aca(p:PV)(t:ByteArray)(v:Bool)(fp:FP)(h0:fr.length=38)(h3:nth fr 3=p)(hc:bX (CC L) run false hp 99 [p]=some (.sc (.string t),hp,fp))(ht:eD .neq t ⟨#[48]⟩=some (.bool v)):∃ st,af (CC L) run k (ah 3 frC) ⟨fr,hp,wr⟩=some (.ret,st)∧aU TT st.fr st.hp f58.results.toList=some [.sc (.bool v)]:=by
 simp[frC,ah,f58,h0,h3,hc,ht,bc,aU]
def LFr:Lst:=[(107,doF),(99,xK 4)]
theorem ag6:dw base.P LFr:=⟨Lo,rm 4 (by omega),trivial⟩
def aab (R:List (List Rat)):Prop:=1≤R.length∧R.length≤4∧∃ m,m≤3∧∀ a ∈ R,a.length=m∧RbL 123 a
def frF:List PV→Option (List PV):=ctr (fun R:List (List Rat)=>[qC R]) aab fun R=>[.sc (.bool (!pB (dMv R.length (jW R)=0)))]
theorem afq (x y:Rat):eD .neq (qb x) (qb y)=some (.bool (!decide (x=y))):=by
 have h:=ago x y
 simp only[eD,OiE,Value.bool.injEq] at h ⊢
 rw[h]
theorem ab9:Ab.Spec base.P 58 frF:=Ab.Spec.bM (C:=CC LFr) (cP ag6) fun args rs h=>by
 obtain⟨R,⟨hR1,hR4,m,hm,hR⟩,rfl,rfl⟩:=cN h
 obtain⟨fr1,wr1,a1,a2,a3,a4⟩:=af9 LFr (runK (CC LFr) 20) 20 (qC R)
 obtain⟨fr2,b1,b2⟩:=aiC LFr (runK (CC LFr) 20) 20 fr1 [] wr1 a2
 have K2:=bJ _ b1
 have l2:=K2.len a2
 have i0:nth fr2 0=qC R:=K2.at a3 (by kernel_rfl)
 have i3:nth fr2 3 = .sc (.slice none 0 0):=K2.at a4 (by kernel_rfl)
 have hdr:∀ a ∈ R,∀ b ∈ R,Rb 742 (dot a b):=fun a ha b hb=>(Ln (k:=123) (hR a ha).2 (hR b hb).2 ((hR a ha).1.trans (hR b hb).1.symm) (hR a ha).1 hm).mono (by omega)
 obtain⟨fr3,hp3,wr3,c1,c2,c3⟩:=Lp.go (C:=CC LFr) (run:=runK (CC LFr) 20) (k:=20) (l:=xL frB) (body:=frI) (m:=38) (B:=frB) rfl (by kernel_rfl) (by kernel_rfl) (by kernel_rfl) ac6 (n:=R.length) (j0:=0) (by omega) (by omega) (by omega)
  (J:=fun i f hp=>Rst hp ((jW R).take i) (f 3)) (fr0:=fr2) (hp0:=[]) (wr0:=wr1) (p:=qC R) l2 i0 (xQ R) b2
  (fun j f g hp h hJ=>by rw[← h 3 (by kernel_rfl)];exact hJ)
  (fun i fr hp wr _ hi hK hij hJ=>by
   have lf:=hK.len l2
   obtain⟨fr4,fr5,d1,d2,d3,d4⟩:=aiB LFr (runK (CC LFr) 20) 20 fr hp wr lf
   have K4:=bJ _ d1
   have K5:=bJ _ d2
   have l5:=K5.len (K4.len lf)
   have j0:nth fr5 0=qC R:=K5.at (K4.at (hK.at i0 (by kernel_rfl)) (by kernel_rfl)) (by kernel_rfl)
   have j4:nth fr5 4=iv i:=K5.at (K4.at hij (by kernel_rfl)) (by kernel_rfl)
   obtain⟨fr6,hp6,wr6,e1,e2,e3,e4,e5⟩:=Lp.go (C:=CC LFr) (run:=runK (CC LFr) 20) (k:=20) (l:=xL OT) (body:=aga) (m:=38) (B:=OT) rfl (by kernel_rfl) (by kernel_rfl) (by kernel_rfl) ac6 (n:=R.length) (j0:=0) (by omega) (by omega) (by omega)
    (J:=fun j f hp'=>PA hp.length hp' ((R.map fun b=>dot R[i] b).take j) (f 5)∧(∀ t,t<hp.length→aY hp' t=aY hp t)∧hp.length≤hp'.length) (fr0:=fr5) (hp0:=hp) (wr0:=wr) (p:=qC R) l5 j0 (xQ R) d4
    (fun j f g hp h hJ=>by rw[← h 5 (by kernel_rfl)];exact hJ)
    (fun j fr' hp' wr' _ hj hK' hij' ⟨hJ1,hJ2,hJ3⟩=>by
     have ha:=hR _ (getElem_mem hi)
     have hb:=hR _ (getElem_mem hj)
     obtain⟨fr'',hp'',wr'',x1,x2,x3,x4⟩:=aiA LFr (runK (CC LFr) 20) 20 fr' hp' wr' R _ hp.length i j (dot R[i] R[j]) hi hj hJ3 (by rw[length_take];omega) hJ1 (ajb rfl _ _ _ ha.2 hb.2 (by omega) (ha.1.trans hb.1.symm) (by omega)) (hK'.len l5) (hK'.at j0 (by kernel_rfl)) (hK'.at j4 (by kernel_rfl)) hij'
     refine⟨fr'',hp'',wr'',x1,?_,fun t ht=>by rw[x3 t ht,hJ2 t ht],by omega⟩
     rw[take_succ_eq_append_getElem (by simpa using hj),getElem_map]
     exact x2)
    ⟨by rw[d3];exact .inl ⟨rfl,rfl⟩,fun _ _=>rfl,Nat.le_refl _⟩
   rw[take_of_length_le (by simp)] at e3
   have hrow:(R.map fun b=>dot R[i] b).length=R.length:=length_map _
   rcases e3 with ⟨e3,-⟩| ⟨q,q1,q2,q3⟩
   ·rw[e3] at hrow;simp at hrow;omega
   ·have i3':nth fr6 3=nth fr 3:=e2.at (K5.at (K4.at rfl (by kernel_rfl)) (by kernel_rfl)) (by kernel_rfl)
    obtain⟨fr7,hp7,wr7,f1,f2⟩:=af8 LFr (runK (CC LFr) 20) 20 fr6 hp hp6 wr6 _ _ _ q ⟨e5,e4⟩ (by rw[length_take];omega) hJ q1 q3 (e2.len l5) i3' q2
    refine⟨fr7,hp7,wr7,?_,?_⟩
    ·refine dH ?_
     have e:frI = .seq (seq1 frI) (ah 1 frI):=rfl
     have hl:af (CC LFr) (runK (CC LFr) 20) 20 (.seq (seq1 (seq1 (ah 1 frI))) (.block 2 (.loop OT))) ⟨fr4,hp,wr⟩=some (.normal,⟨fr6,hp6,wr6⟩):=by rw[av d2];exact e1
     rw[e,av d1,ajI,av hl]
     exact f1
    ·rw[take_succ_eq_append_getElem (by simpa [jW] using hi)]
     have:(jW R)[i]'(by simpa [jW] using hi)=R.map fun b=>dot R[i] b:=by unfold jW;rw[getElem_map]
     rw[this];exact f2)
  (by rw[i3];exact .inl ⟨rfl,rfl⟩)
 rw[take_of_length_le (by simp[jW])] at c3
 have hS:SqM R.length (jW R):=by
  refine⟨by simp[jW],fun S hS => ?_⟩
  unfold jW at hS
  obtain⟨a,ha,rfl⟩:=mem_map.1 hS
  refine⟨length_map _,fun x hx => ?_⟩
  obtain⟨b,hb,rfl⟩:=mem_map.1 hx
  exact (hdr a ha b hb).mono (by omega)
 obtain⟨fp,u1⟩:=A1 (L:=LFr) rfl c3 (by omega) hS (runK (CC LFr) 20) false
 have hneq:=afq (dMv R.length (jW R)) 0
 rw[qb0] at hneq
 obtain⟨st,v1,v2⟩:=aca LFr (runK (CC LFr) 20) 20 fr3 hp3 wr3 _ _ _ fp (c2.len l2) rfl u1 hneq
 have hx:af (CC LFr) (runK (CC LFr) 20) 20 frC ⟨entry 38 [qC R],[],[]⟩=some (.ret,st):=by
  have hs:af (CC LFr) (runK (CC LFr) 20) 20 (.seq (seq1 (seq1 (ah 2 frC))) (.block 0 (.loop frB))) ⟨fr1,[],wr1⟩=some (.normal,⟨fr3,hp3,wr3⟩):=by rw[av b1];exact c1
  rw[aO 2 a1,ajJ,av hs];exact v1
 have hd:decide (dMv R.length (jW R)=0)=pB (dMv R.length (jW R)=0):=by unfold pB;congr
 rw[hd] at v2
 exact⟨_,_,_,_,[.sc (.bool _)],[],aP Cp rfl hx v2,rfl,Wk.refl rfl,trivial⟩
theorem m6:base.F.get 18=some f18:=by kernel_rfl
def mq:Code:=f18.body.getD .skip
def wJ:Code:=(aC mq).getD .skip
def wI:Code:=seq1 (db wJ)
def G0:Code:=cw (db wJ)
theorem ahZ:ah 5 mq = .seq (.seq (seq1 (seq1 (ah 5 mq))) (.block 0 (.loop wJ))) (ah 6 mq):=rfl
theorem MZ:db wJ = .seq wI G0:=rfl
theorem bPt:ie TT 39=some 24:=by kernel_rfl
theorem ahY:((Region.before (fx wI))[18]?.getD 0).testBit 2=true:=by kernel_rfl
theorem Zg(c:List (List ByteArray))(l:List Int)(e:Nat)(he:e≠0)(g:au L run 45 [cE c,aE l,.sc (.int .i64 (-1))] (iv e)) :
  ∃ st,af (CC L) run k mq ⟨entry 49 [cE c,aE l],[],[]⟩=some (.ret,st)∧aU TT st.fr st.hp f18.results.toList=some [iv 0,iv e]:=by
 obtain⟨e1,e2,e3⟩:=cn 47 (cE c) (aE l)
 generalize entry 49 [cE c,aE l]=fr0 at *
 have hb:((e:Int) != 0)=true:=by simp;omega
 unfold au at g
 simp only[iv] at g ⊢
 simp[mq,f18,bc,aw,bj,e1,e2,e3,g,hb,aU]
theorem RW(c:List (List ByteArray))(g:au L run 45 [cE c,aE [],.sc (.int .i64 (-1))] (iv 0)) :
  ∃ st,af (CC L) run k mq ⟨entry 49 [cE c,aE []],[],[]⟩=some (.ret,st)∧aU TT st.fr st.hp f18.results.toList=some [Ab.bz (-1),iv 0]:=by
 obtain⟨e1,e2,e3⟩:=cn 47 (cE c) (aE [])
 generalize entry 49 [cE c,aE []]=fr0 at *
 have hl:dn (aE [])=some 0:=rfl
 unfold au at g
 simp only[iv,Int.cast_ofNat_Int] at g ⊢
 simp[Ab.bz,mq,f18,bc,aw,bj,bO,bd,e1,e2,e3,g,hl,jA,aU]
theorem Zf(c:List (List ByteArray))(l:List Int)(hl0:l≠[])(g:au L run 45 [cE c,aE l,.sc (.int .i64 (-1))] (iv 0)) :
  ∃ fr' wr',aX (CC L) run k 5 mq ⟨entry 49 [cE c,aE l],[],[]⟩=some ⟨fr',[],wr'⟩∧fr'.length=49∧nth fr' 0=cE c∧nth fr' 1=aE l∧nth fr' 7 = .sc (.slice none 0 0):=by
 obtain⟨e1,e2,e3⟩:=cn 47 (cE c) (aE l)
 generalize entry 49 [cE c,aE l]=fr0 at *
 have hl:dn (aE l)=some l.length:=by simp[aE,fg,dn]
 have hne:l.length≠0:=by simpa using hl0
 unfold au at g
 generalize l.length=m at *
 have hz:((m:Int) == 0)=false:=by rw[beq_eq_false_iff_ne];omega
 simp only[iv,Int.cast_ofNat_Int] at g ⊢
 simp[hz,aX,mq,f18,bc,aw,bj,bO,bd,and_assoc,e1,e2,e3,g,hl,jA]
theorem aef(h0:fr.length=49):∃ fr',af (CC L) run k (seq1 (seq1 (ah 5 mq))) ⟨fr,hp,wr⟩=some (.normal,⟨fr',hp,wr⟩)∧nth fr' 8=iv 1:=by
 simp[iv,seq1,ah,mq,f18,h0]
theorem RV(n:Nat)(p:PV)(hl:dn p=some n)(h0:fr.length=49)(h7:nth fr 7=p):∃ st,af (CC L) run k (ah 6 mq) ⟨fr,hp,wr⟩=some (.ret,st)∧aU TT st.fr st.hp f18.results.toList=some [iv n,iv 0]:=by
 simp[iv,mq,ah,f18,h0,h7,hl,LZ,bO,bd,aU]
theorem VC (M:List (List Rat)):M.flatMap eQ=M.map qL:=by
 induction M with
 | nil=>rfl
 | cons a M ih=>rw[flatMap_cons,ih];rfl
theorem Ze(X B:List (List Rat))(l:List Nat)(i:Nat)(W:List Rat)(hi:i<l.length)(hB9:B.length≤100)(hX:l[i]<X.length)(hX0:l[0]'(by omega)<X.length)(g:au L run 57 [qL X[l[i]],qL (X[l[0]'(by omega)]'hX0)] (qL W))(hO:fe 1 eQ 0 hp B (nth fr 7))(h0:fr.length=49)(h00:nth fr 0=qC X)(h1:nth fr 1=aN l)(h8:nth fr 8=iv i) :
  ∃ fr' hp' wr',af (CC L) run k wI ⟨fr,hp,wr⟩=some (.normal,⟨fr',hp',wr'⟩)∧fe 1 eQ 0 hp' (B++[W]) (nth fr' 9)∧Hgr hp hp':=by
 obtain⟨r,x1,x2⟩:=nm (l.map Int.ofNat) i (by simpa using hi)
 obtain⟨r0,z1,z2⟩:=nm (l.map Int.ofNat) 0 (by simp;omega)
 obtain⟨r',y1,y2⟩:=gi uCl (X.map fun P=>P.map qb) l[i] (by simpa using hX)
 obtain⟨r2,w1,w2⟩:=gi uCl (X.map fun P=>P.map qb) (l[0]'(by omega)) (by simpa using hX0)
 rw[getElem_map] at y2 w2 x2 z2
 rw[show pE (X[l[i]].map qb)=qL X[l[i]] from rfl] at y2
 rw[show pE ((X[l[0]'(by omega)]'hX0).map qb)=qL (X[l[0]'(by omega)]'hX0) from rfl] at w2
 rw[show aE (l.map Int.ofNat)=aN l from rfl] at x1 z1
 rw[show cE (X.map fun P=>P.map qb)=qC X from rfl] at y1 w1
 obtain⟨ids,hrd0⟩:=hO.rd VU.toEl
 have okB:=VU.toEl.yR B
 obtain⟨p1,hp1,fp1,q,hp2,fp2,a1,a2,a3,a4,a5,a6⟩:=ap2 hp (B.flatMap eQ) [qL W] (by simp) (by rw[VC,length_map];simp;omega)
 have lB:(B.flatMap eQ).length=B.length:=by rw[VC,length_map]
 rw[lB] at a1 a2
 rw[show [qL W].length=1 from rfl] at a2
 have fin:fe 1 eQ 0 hp2 (B++[W]) (.own q 1 0 (B.length+1) false) :=
  ⟨Nat.zero_le _,.inr ⟨q,[],false,Nat.zero_le _,a5,by simp,nofun,by rw[a6,append_nil,flatMap_append];rfl⟩⟩
 unfold au at g
 have hid:bU [qL W]=true:=by simp only[uu,bU,PV.cO,Bool.and_self]
 have id0:bU []=true:=rfl
 have lt0:eL TT 22 0 []=some (1,[]):=by simp[eL,LZ,sPt,zPt,rep,dA]
 have hlit:eL TT 22 1 [(0,qL W)]=some (1,[qL W]):=by simp[eL,LZ,sPt,zPt,rep,dA,cq,show (qL W).cells?=some [qL W] from rfl]
 have hrd:=fun hp=>Kw hp (qL W)
 have hok:dk (qL W)=true:=rfl
 have fr0':=fr0
 have bb:=ahY
 simp[-Nat.testBit_zero,wI,seq1,wJ,mq,db,f18,aC,fx] at bb
 generalize qL W=v at *
 generalize B.flatMap eQ=cs at *
 generalize B.length=n at *
 generalize qL X[l[i]]=u at *
 generalize qL (X[l[0]'(by omega)]'hX0)=u0 at *
 generalize hj0:l[0]'(by omega)=j0 at *
 generalize l[i]=j at *
 rw[show Int.ofNat j=(j:Int) from rfl] at x2
 rw[show Int.ofNat j0=(j0:Int) from rfl] at z2
 rw[show (((0:Nat):Int))=(0:Int) from rfl] at z1
 simp only[iv] at h8
 cases e1:FP.free ⟨ids++fp1.rd,fp1.wr,fp1.al,false⟩ <;> cases e2:FP.free ⟨fp2.rd,fp2.wr,fp2.al,false⟩ <;> simp[-Nat.testBit_zero,bb,wI,seq1,wJ,mq,db,f18,aC,partOf,bd,and_assoc,bh,h0,h00,h1,h8,x1,x2,y1,y2,z1,z2,w1,w2,g,hid,id0,lt0,hlit,hrd0,hrd,okB,hok,a1,a2,a3,LZ,sPt,bPt,zPt,aI,sI,aPt,sPt,cg,aV,number,fr0',e1,e2,cH]
 all_goals exact fin
theorem Zd(p p':PV)(v:Bool)(fp:FP)(hc:bX (CC L) run false hp 58 [p']=some (.sc (.bool v),hp,fp))(h0:fr.length=49)(h7:nth fr 7=p)(h9:nth fr 9=p') :
  ∃ fr' wr',af (CC L) run k G0 ⟨fr,hp,wr⟩=some (.normal,⟨fr',hp,wr'⟩)∧nth fr' 7=bif v then p' else p:=by
 cases v <;> simp[G0,cw,wJ,mq,db,f18,aC,and_assoc,h0,h7,h9,hc]
def LRr:Lst:=[(45,uv),(57,suF),(58,frF)]
theorem agZ:dw base.P LRr:=⟨KS,Be,ab9,trivial⟩
theorem fe.gr {hp hp':List Blk}{B:List (List Rat)}{p:PV}(h:fe 1 eQ 0 hp B p)(hg:Hgr hp hp'):fe 1 eQ 0 hp' B p:=by
 refine⟨Nat.zero_le _,?_⟩
 rcases h.2 with h | ⟨id,m,x,h1,h2,h3,h4,h5⟩
 ·exact .inl h
 ·exact .inr ⟨id,m,x,h1,Nat.lt_of_lt_of_le h2 hg.1,h3,h4,by rw[hg.2 id h2];exact h5⟩
theorem Pe {hp:List Blk}{R:List (List Rat)}{p:PV}(hO:fe 1 eQ 0 hp R p)(hR:aab R)(run:ar)(dr:Bool):∃ fp,bX (CC LRr) run dr hp 58 [p]=some (.sc (.bool (!pB (dMv R.length (jW R)=0))),hp,fp):=by
 obtain⟨q,ids,h1,-,h3,-⟩:=hO.snap VU
 have s1:bq (Ab.snap hp bn) [p]=some ([q],ids++[]):=by
  show bq (Ab.snap hp 12) _=_
  simp only[bq,h1 10]
 have s2:aJ [q]=[qC R]:=by simp only[aJ,h3,VS]
 have hF:frF [qC R]=some [.sc (.bool (!pB (dMv R.length (jW R)=0)))] :=
  jn (e:=fun R:List (List Rat)=>[qC R]) (ok:=aab) (f:=fun R=>[.sc (.bool (!pB (dMv R.length (jW R)=0)))]) (fun x y _ _ h=>by
   simp only[List.cons.injEq,and_true] at h
   rw[xn h]) hR
 exact⟨_,fC (L:=LRr) GK rfl run dr hp [p] _ _ _ _ s1 s2 hF rfl⟩
theorem RX (c:List (List ByteArray))(l:List Int)(hF:me c)(h9:l.length≤900)(h0:gw c l (-1)=0)(hl:l≠[]):∃ st,af (CC LRr) (runK (CC LRr) (l.length+2)) (l.length+2) mq ⟨entry 49 [cE c,aE l],[],[]⟩=some (.ret,st)∧aU TT st.fr st.hp f18.results.toList=some [iv (rkM (dj (toX c) (l.map Int.toNat))),iv 0]:=by
 obtain⟨h1,h3⟩:=Fo h0
 obtain⟨q1,q2,q3,q4,q5⟩:=tn h1 hF
 have g:=ahm (L:=LRr) rfl (runK (CC LRr) (l.length+2)) c l (-1) hF.fit (by omega)
 rw[h0] at g
 have hlen:0<l.length:=length_pos_iff.2 hl
 have hz:=h3 _ (getElem_mem hlen)
 have hcne:c≠[]:=by intro e;rw[e] at hz;simp at hz;omega
 obtain⟨hm1,hm3⟩:=q3 hcne
 have hin:∀ i ∈ l.map Int.toNat,i<(toX c).length:=fun i hi=>by
  obtain⟨z,hz,rfl⟩:=mem_map.1 hi
  have:=h3 z hz
  rw[q5];omega
 obtain⟨fr1,wr1,a1,a2,a3,a4,a5⟩:=Zf LRr (runK (CC LRr) (l.length+2)) (l.length+2) c l hl g
 obtain⟨fr2,b1,b2⟩:=aef LRr (runK (CC LRr) (l.length+2)) (l.length+2) fr1 [] wr1 a2
 have K2:=bJ _ b1
 have l2:=K2.len a2
 have i0:nth fr2 0=qC (toX c):=(K2.at a3 (by kernel_rfl)).trans q1
 have i1:nth fr2 1=aN (l.map Int.toNat):=(K2.at a4 (by kernel_rfl)).trans (FG fun z hz=>(h3 z hz).1)
 have i7:nth fr2 7 = .sc (.slice none 0 0):=K2.at a5 (by kernel_rfl)
 have hdo:=kG q2 hin
 have hdl:=fW (toX c) (l.map Int.toNat)
 generalize hA:l.map Int.toNat=A at *
 have hAl:A.length=l.length:=by rw[← hA,length_map]
 have hA0:0<A.length:=by omega
 have hX0:=hin _ (getElem_mem hA0)
 have hget:∀ j (h1:1≤j) (h2:j<A.length),∃ hX:A[j]<(toX c).length,(dj (toX c) A).getD (j - 1) []=dy ((toX c)[A[j]]'hX) ((toX c)[A[0]]'hX0):=fun j hj1 hj=>by
  have hX:=hin _ (getElem_mem hj)
  refine⟨hX,?_⟩
  have hd:j - 1<(dj (toX c) A).length:=by rw[hdl];omega
  rw[getD_eq_getElem?_getD,getElem?_eq_getElem hd,Option.getD_some]
  have e0:(dj (toX c) A)[j - 1]'hd=dy ((toX c).getD (A.tail[j - 1]'(by rw[length_tail];omega)) []) ((toX c).getD (A.headD 0) []):=getElem_map (fun i=>dy ((toX c).getD i []) ((toX c).getD (A.headD 0) [])) (h:=hd)
  rw[e0]
  have e1:A.headD 0=A[0]:=by cases A with | nil=>simp at hA0 | cons=>rfl
  have e2:A.tail[j - 1]'(by rw[length_tail];omega)=A[j]:=by
   rw[getElem_tail];congr 1;omega
  rw[e1,e2,getD_eq_getElem?_getD,getD_eq_getElem?_getD,getElem?_eq_getElem hX,getElem?_eq_getElem hX0]
  rfl
 obtain⟨fr3,hp3,wr3,c1,c2,c3⟩:=Lp.go (C:=CC LRr) (run:=runK (CC LRr) (l.length+2)) (k:=l.length+2) (l:=xL wJ) (body:=db wJ) (m:=49) (B:=wJ) rfl (by kernel_rfl) (by kernel_rfl) (by kernel_rfl) vY (n:=A.length) (j0:=1) (by omega) (by omega) hA0
  (J:=fun j f hp=>fe 1 eQ 0 hp (gbs (dj (toX c) A) (j - 1)) (f 7)) (fr0:=fr2) (hp0:=[]) (wr0:=wr1) (p:=aN A) l2 i1 (by simp[aN,aE,fg,dn]) b2
  (fun j f g hp h hJ=>by rw[← h 7 (by kernel_rfl)];exact hJ)
  (fun j fr hp wr hj1 hj hK hij hJ=>by
   obtain⟨hX,hv⟩:=hget j hj1 hj
   have ej:=q2 _ (getElem_mem hX)
   have e0:=q2 _ (getElem_mem hX0)
   obtain⟨u1,u2,u3⟩:=Iv hm3 (fun a ha=>(hdo a ha).1) (j - 1) (by rw[hdl];omega)
   have hB3:=Zk (gbs (dj (toX c) A) (j - 1))
   have lf:=hK.len l2
   obtain⟨fr',hp',wr',x1,x2,x3⟩:=Ze LRr (runK (CC LRr) (l.length+2)) (l.length+2) fr hp wr (toX c) _ A j (dy ((toX c)[A[j]]'hX) ((toX c)[A[0]]'hX0)) hj (by omega) hX hX0 (ahe rfl _ _ _ ej.2 e0.2 (by omega) (by omega) (by omega) (by omega)) hJ lf (hK.at i0 (by kernel_rfl)) (hK.at i1 (by kernel_rfl)) hij
   have K3:=bJ _ x1
   have hvm:dy ((toX c)[A[j]]'hX) ((toX c)[A[0]]'hX0) ∈ dj (toX c) A:=by
    rw[← hv,getD_eq_getElem?_getD,getElem?_eq_getElem (show j - 1<(dj (toX c) A).length by rw[hdl];omega)]
    exact getElem_mem _
   have hfr:aab (gbs (dj (toX c) A) (j - 1)++[dy ((toX c)[A[j]]'hX) ((toX c)[A[0]]'hX0)]):=by
    refine⟨by simp,by simp;omega,hdL c,hm3,fun a ha => ?_⟩
    rcases mem_append.1 ha with ha | ha
    ·exact hdo a (mem_of_mem_take (u1 a ha))
    ·rw[mem_singleton] at ha
     rw[ha];exact hdo _ hvm
   obtain⟨fp,v1⟩:=Pe x2 hfr (runK (CC LRr) (l.length+2)) false
   obtain⟨fr'',wr'',y1,y2⟩:=Zd LRr (runK (CC LRr) (l.length+2)) (l.length+2) fr' hp' wr' (nth fr 7) _ _ fp v1 (K3.len lf) (K3.at rfl (by kernel_rfl)) rfl
   refine⟨fr'',hp',wr'',?_,?_⟩
   ·refine dH ?_
    rw[MZ,av x1];exact y1
   ·rw[show j+1 - 1=(j - 1)+1 by omega,y2]
    show fe 1 eQ 0 hp' (@ite _ _ (Classical.propDecidable _) _ _) _
    rw[hv]
    by_cases hc:dMv (gbs (dj (toX c) A) (j - 1)++[dy ((toX c)[A[j]]'hX) ((toX c)[A[0]]'hX0)]).length (jW (gbs (dj (toX c) A) (j - 1)++[dy ((toX c)[A[j]]'hX) ((toX c)[A[0]]'hX0)]))=0
    ·rw[kz hc,if_neg (fun e=>e hc)]
     exact fe.gr hJ x3
    ·rw[jT hc,if_pos hc]
     exact x2)
  (by rw[i7];exact fe.nil (Nat.le_refl _))
 obtain⟨u1,u2,u3⟩:=Iv hm3 (fun a ha=>(hdo a ha).1) (A.length - 1) (by rw[hdl];omega)
 rw[take_of_length_le (by rw[hdl];omega)] at u3
 obtain⟨st,d1,d2⟩:=RV LRr (runK (CC LRr) (l.length+2)) (l.length+2) fr3 hp3 wr3 _ _ c3.len (c2.len l2) rfl
 refine⟨st,?_,?_⟩
 ·have hs:af (CC LRr) (runK (CC LRr) (l.length+2)) (l.length+2) (.seq (seq1 (seq1 (ah 5 mq))) (.block 0 (.loop wJ))) ⟨fr1,[],wr1⟩=some (.normal,⟨fr3,hp3,wr3⟩):=by rw[av b1];exact c1
  rw[aO 5 a1,ahZ,av hs];exact d1
 ·rw[d2,u3]
theorem Hf:Ab.Spec base.P 18 xr:=Ab.Spec.bM (C:=CC LRr) (cP agZ) fun args rs h=>by
 obtain⟨⟨c,l⟩,⟨hF,h9⟩,rfl,rfl⟩:=cN h
 dsimp only at hF h9
 show ∃ k rs1 hp1 wr rs2 ids,runK (CC LRr) k 18 [cE c,aE l] []=_∧_∧WkL rs2 [Ab.bz (nc c l).1,iv (nc c l).2]
 have g:=ahm (L:=LRr) rfl (runK (CC LRr) (l.length+2)) c l (-1) hF.fit (by omega)
 unfold nc
 by_cases h0:gw c l (-1)=0
 ·rw[if_neg (fun e=>e h0)]
  by_cases hl:l=[]
  ·subst hl
   rw[if_pos rfl]
   rw[h0] at g
   obtain⟨st,x1,x2⟩:=RW LRr (runK (CC LRr) (([]:List Int).length+2)) (([]:List Int).length+2) c g
   exact⟨_,_,_,_,_,_,aP m6 rfl x1 x2,rfl,Wk.refl rfl,Wk.refl rfl,trivial⟩
  ·rw[if_neg hl]
   obtain⟨st,x1,x2⟩:=RX c l hF h9 h0 hl
   exact⟨_,_,_,_,_,_,aP m6 rfl x1 x2,rfl,Wk.refl rfl,Wk.refl rfl,trivial⟩
 ·rw[if_pos h0]
  obtain⟨st,x1,x2⟩:=Zg LRr (runK (CC LRr) (l.length+2)) (l.length+2) c l _ h0 g
  exact⟨_,_,_,_,_,_,aP m6 rfl x1 x2,rfl,Wk.refl rfl,Wk.refl rfl,trivial⟩
end Go.Proofs.YtjdmodeenbdfpaaGreat
end
