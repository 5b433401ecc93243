/- Contracts of the law and of what it calls, and facts about determinants, part 40 of the proof; each lemma states its own conditions. -/
import Derived.Test.YtjdmodeenbdfpaaGreatT39
set_option linter.unusedSimpArgs false
set_option linter.unusedVariables false
namespace Go.Proofs.YtjdmodeenbdfpaaGreat
open Go Go.Ab List Tryz
noncomputable def rq (s:ByteArray):Rat:=@Classical.epsilon Rat ⟨0⟩ fun x=>s=qb x
theorem ahX (x:Rat):rq (qb x)=x:=by
 have h:qb x=qb (rq (qb x)):=Classical.epsilon_spec (p:=fun y=>qb x=qb y) ⟨x,rfl⟩
 exact (pR h).symm
noncomputable def toX (c:List (List ByteArray)):List (List Rat):=c.map fun p=>p.map rq
def me (c:List (List ByteArray)):Prop:=c.length≤100∧∀ p ∈ c,p.length≤100∧∀ s ∈ p,(bys s).length≤60
theorem me.fit {c:List (List ByteArray)}(h:me c):Fit c:=⟨h.1,fun p hp=>⟨(h.2 p hp).1,fun s hs=>Nat.le_trans ((h.2 p hp).2 s hs) (by omega)⟩⟩
theorem acK {m:Nat}{p:List ByteArray}(h:rQ m p=0)(hs:∀ s ∈ p,(bys s).length≤60):p.length=m∧1≤m∧m≤3∧p=(p.map rq).map qb∧RbL 61 (p.map rq):=by
 unfold rQ at h
 by_cases hb:p.length=0∨3<p.length∨p.length≠m
 ·rw[if_pos hb] at h;omega
 ·rw[if_neg hb] at h
  have hall:p.all (fun s=>pB (IsV s))=true:=by
   cases e:p.all (fun s=>pB (IsV s)) with
   | true=>rfl
   | false=>rw[e] at h;cases h
  rw[all_eq_true] at hall
  have hv:∀ s ∈ p,∃ x,s=qb x∧rq s=x∧Rb 61 x:=fun s hsp=>by
   obtain⟨x,hx,-⟩:=aeH.1 (hall s hsp)
   refine⟨x,hx,by rw[hx,ahX],?_⟩
   exact adf (by rw[← hx];exact hs s hsp)
  refine⟨by omega,by omega,by omega,?_,?_⟩
  ·rw[map_map]
   conv=>lhs;rw[← map_id p]
   refine map_congr_left fun s hsp => ?_
   obtain⟨x,hx,e,-⟩:=hv s hsp
   show s=qb (rq s)
   rw[e];exact hx
  ·intro y hy
   obtain⟨s,hsp,rfl⟩:=mem_map.1 hy
   obtain⟨x,hx,e,hb⟩:=hv s hsp
   rw[e];exact hb
theorem Lv {m:Nat} : ∀ {c:List (List ByteArray)},j9 m c=0→∀ p ∈ c,rQ m p=0
 | p::r,h,q,hq=>by
  unfold j9 at h
  by_cases h0:rQ m p=0
  ·rw[if_pos h0] at h
   rcases mem_cons.1 hq with e | e
   ·rw[e];exact h0
   ·exact Lv h q e
  ·rw[if_neg h0] at h;exact absurd h h0
theorem tn {c:List (List ByteArray)}(h:chk c=0)(hF:me c):cE c=qC (toX c)∧vj (hdL c) 61 (toX c)∧(c≠[]→1≤hdL c∧hdL c≤3)∧c.length≤64∧(toX c).length=c.length:=by
 unfold chk at h
 by_cases h64:64<c.length
 ·rw[if_pos h64] at h;omega
 ·rw[if_neg h64] at h
  have hp:=fun p hp=>acK (Lv h p hp) (hF.2 p hp).2
  refine⟨?_,?_,?_,by omega,by simp[toX]⟩
  ·unfold qC toX
   congr 1
   rw[map_map]
   conv=>lhs;rw[← map_id c]
   exact map_congr_left fun p hpc=>(hp p hpc).2.2.2.1
  ·intro P hP
   unfold toX at hP
   obtain⟨p,hpc,rfl⟩:=mem_map.1 hP
   have:=hp p hpc
   exact⟨by rw[length_map];exact this.1,this.2.2.2.2⟩
  ·intro hne
   cases c with
   | nil=>exact absurd rfl hne
   | cons p r =>
    have:=hp p mem_cons_self
    exact⟨this.2.1,this.2.2.1⟩
theorem vM {c:List (List ByteArray)}(h:chk c=0):iE c=hdL c:=by unfold iE;rw[if_pos h]
theorem vL {c:List (List ByteArray)}{l:List Int}{n:Nat}(h:gw c l (n:Int)=0):chk c=0∧l.length=n∧∀ z ∈ l,0≤z∧z<c.length:=by
 unfold gw at h
 by_cases h1:chk c=0
 ·rw[if_neg (fun e=>e h1)] at h
  by_cases h2:(0:Int)≤(n:Int)∧(l.length:Int)≠n
  ·rw[if_pos h2] at h;omega
  ·rw[if_neg h2] at h
   refine⟨h1,by omega,fun z hz => ?_⟩
   cases hb:l.any (pt c.length) with
   | true=>rw[hb] at h;cases h
   | false =>
    rw[any_eq_false] at hb
    have:=hb z hz
    unfold pt at this
    simp only[Bool.or_eq_true,decide_eq_true_eq] at this
    omega
 ·rw[if_pos h1] at h;exact absurd h h1
theorem FG {l:List Int}(h:∀ z ∈ l,0≤z):aE l=aN (l.map Int.toNat):=by
 unfold aN
 rw[map_map]
 congr 1
 conv=>lhs;rw[← map_id l]
 exact map_congr_left fun z hz=>(Int.toNat_of_nonneg (h z hz)).symm
noncomputable def ef (c:List (List ByteArray))(l:List Int):Option Rat × Nat :=
 if gw c l ((iE c+1:Nat):Int)=0 then (mW (dj (toX c) (l.map Int.toNat)),0) else (none,gw c l ((iE c+1:Nat):Int))
theorem JM {j k:Nat}{X Y:List Rat}(hX:RbL j X)(hY:RbL k Y):RbL (j+k+1) (dy X Y):=by
 intro z hz
 unfold dy at hz
 rw[mem_iff_getElem] at hz
 obtain⟨i,hi,rfl⟩:=hz
 rw[getElem_zipWith]
 exact (hX _ (getElem_mem _)).sub (hY _ (getElem_mem _))
theorem Cz {X Y:List Rat}(h:X.length=Y.length):(dy X Y).length=X.length:=by unfold dy;rw[length_zipWith];omega
theorem kG {m k:Nat}{X:List (List Rat)}{l:List Nat}(hE:vj m k X)(hin:∀ i ∈ l,i<X.length):∀ R ∈ dj X l,R.length=m∧RbL (2*k+1) R:=by
 intro R hR
 unfold dj at hR
 obtain⟨i,hi,rfl⟩:=mem_map.1 hR
 cases l with
 | nil=>simp at hi
 | cons j l =>
  have h1:=hin i (mem_cons_of_mem _ hi)
  have h2:=hin j mem_cons_self
  simp only[headD_cons,getD_eq_getElem?_getD,getElem?_eq_getElem h1,getElem?_eq_getElem h2,Option.getD_some]
  have e1:=hE _ (getElem_mem h1)
  have e2:=hE _ (getElem_mem h2)
  refine⟨by rw[Cz (by omega)];exact e1.1,fun z hz=>(JM e1.2 e2.2 z hz).mono (by omega)⟩
theorem fW (X:List (List Rat))(l:List Nat):(dj X l).length=l.length - 1:=by unfold dj;simp
theorem A8:base.F.get 42=some f42:=by kernel_rfl
theorem YV:base.shared 42=false:=by kernel_rfl
theorem tB:base.F.get 13=some f13:=by kernel_rfl
theorem YX:base.shared 13=false:=by kernel_rfl
theorem Cr:base.F.get 15=some f15:=by kernel_rfl
theorem wC:base.shared 15=false:=by kernel_rfl
theorem acz (L:Lst)(run:ar)(k:Nat)(c:List (List ByteArray))(l:List Int)(m e:Nat)(hm:m<1000)(he:e≠0)(g1:au L run 81 [cE c] (iv m))(g2:au L run 50 [cE c,aE l,.sc (.int .i64 ((m:Int)+1))] (iv e)) :
  ∃ st,af (CC L) run k (f42.body.getD .skip) ⟨entry 21 [cE c,aE l],[],[]⟩=some (.ret,st)∧aU TT st.fr st.hp f42.results.toList=some [.agg rz,iv e]:=by
 obtain⟨e1,e2,e3⟩:=cn 19 (cE c) (aE l)
 generalize entry 21 [cE c,aE l]=fr0 at *
 have hw:=bH m (by omega)
 have hb:((e:Int) != 0)=true:=by simp;omega
 have hok:bh rz=true:=rfl
 have hrl:rz.length=4:=rfl
 have ho:=dW rz rz rfl
 have ht:=eo rz rfl
 have hbd:fj TT 72 []=some (.agg rz):=by simp[fj,zRz,uR,sW,rf0,rf1,dA]
 unfold au at g1 g2
 simp only[iv] at g1 g2 ⊢
 simp[f42,af,aH,ao,aq,aG,ag,ai,aL,an,aj,aF,aA,FzZ,bc,aw,bj,az,partOf,aa,ae,ab,bd,bp,e1,e2,e3,g1,g2,hw,hb,zRz,hok,hrl,ho,ht,hbd,aR,sR,aM,aY,bZ,aV,br,aU]
theorem Wt (L:Lst)(run:ar)(k:Nat)(c:List (List ByteArray))(l:List Int)(m:Nat)(d:PV)(cs:List PV)(hcs:cs.length=4)(hok:bh cs=true)(hm:m<1000)(g1:au L run 81 [cE c] (iv m))(g2:au L run 50 [cE c,aE l,.sc (.int .i64 ((m:Int)+1))] (iv 0))(g3:au L run 51 [cE c,aE l] d)(g4:au L run 62 [d] (.agg cs)) :
  ∃ st,af (CC L) run k (f42.body.getD .skip) ⟨entry 21 [cE c,aE l],[],[]⟩=some (.ret,st)∧aU TT st.fr st.hp f42.results.toList=some [.agg cs,iv 0]:=by
 obtain⟨e1,e2,e3⟩:=cn 19 (cE c) (aE l)
 generalize entry 21 [cE c,aE l]=fr0 at *
 have hw:=bH m (by omega)
 have ho:=dW rz cs (by rw[hcs];rfl)
 have ht:=eo cs hcs
 unfold au at g1 g2 g3 g4
 simp only[iv,Int.cast_ofNat_Int] at g1 g2 ⊢
 simp[f42,af,aH,ao,aq,aG,ag,ai,aL,an,aj,aF,aA,FzZ,bc,aw,bj,az,partOf,aa,ae,ab,bd,bp,e1,e2,e3,g1,g2,g3,g4,hw,zRz,hok,hcs,ho,ht,aR,sR,aM,aY,bZ,aV,br,aU]
noncomputable def LV1:Lst:=[(81,A4),(50,uv),(51,HT),(62,sU),(49,iA),(43,mv),(44,rtF)]
theorem XB:dw base.P LV1:=⟨Pu,Al,HS,xu,jj,mr,Zb,trivial⟩
abbrev CA:=List (List ByteArray) × List Int
def eCA (p:CA):List PV:=[cE p.1,aE p.2]
theorem pc {p q:CA}(h:eCA p=eCA q):p=q:=by
 simp only[eCA,List.cons.injEq,and_true] at h
 exact Prod.ext (Ca h.1) (Ja h.2)
def TI (p:CA):Prop:=me p.1∧p.2.length≤1000
noncomputable def Tt:List PV→Option (List PV):=ctr eCA TI fun p=>[rv (ef p.1 p.2).1,iv (ef p.1 p.2).2]
theorem af4 {c:List (List ByteArray)}(h:Fit c):hdL c≤100:=by
 cases c with
 | nil=>exact Nat.zero_le _
 | cons p r=>exact (h.2 p mem_cons_self).1
theorem Cb {c:List (List ByteArray)}(h:Fit c):iE c<1000:=by
 have:=af4 h
 unfold iE
 split <;> omega
theorem N3:Ab.Spec base.P 42 Tt:=Ab.Spec.bM (C:=CC LV1) (cP XB) fun args rs h=>by
 obtain⟨⟨c,l⟩,⟨hF,h9⟩,rfl,rfl⟩:=cN h
 dsimp only at hF h9
 have g1:=ahq (L:=LV1) rfl (runK (CC LV1) 1) c hF.fit
 have g2:=Jj (L:=LV1) rfl (runK (CC LV1) 1) c l ((iE c+1:Nat):Int) hF.fit h9
 show ∃ k rs1 hp1 wr rs2 ids,runK (CC LV1) k 42 [cE c,aE l] []=_∧_∧WkL rs2 [rv (ef c l).1,iv (ef c l).2]
 unfold ef
 by_cases h0:gw c l ((iE c+1:Nat):Int)=0
 ·rw[if_pos h0]
  rw[h0] at g2
  obtain⟨h1,h2,h3⟩:=vL h0
  obtain⟨q1,q2,q3,q4,q5⟩:=tn h1 hF
  have hax:=vM h1
  have hlne:l≠[]:=by intro e;rw[e] at h2;simp at h2
  have hcne:c≠[]:=by
   intro e
   cases l with
   | nil=>exact hlne rfl
   | cons z l =>
    have:=h3 z mem_cons_self
    rw[e] at this
    simp at this
    omega
  have q3':=q3 hcne
  have hin:∀ i ∈ l.map Int.toNat,i<(toX c).length:=fun i hi=>by
   obtain⟨z,hz,rfl⟩:=mem_map.1 hi
   have:=h3 z hz
   rw[q5];omega
  have g3:=acZ (L:=LV1) rfl (runK (CC LV1) 1) (toX c) (l.map Int.toNat) (by simpa using hlne) (by simpa using h9) hin (show hdL c≤1000 by omega) (show 61≤1000 by omega) q2
  rw[← q1,← FG (fun z hz=>(h3 z hz).1)] at g3
  have hdo:=kG q2 hin
  have hdl:(dj (toX c) (l.map Int.toNat)).length=hdL c:=by rw[fW,length_map,h2,hax];omega
  have g4:=ac0 (L:=LV1) rfl (runK (CC LV1) 1) (mT (dj (toX c) (l.map Int.toNat))) _ (fun _=>rfl) (WX _) (n:=hdL c) (by omega) (show 2*61+1≤1000 by omega) hdl hdo
  rw[wG] at g4
  obtain⟨st,x1,x2⟩:=Wt LV1 (runK (CC LV1) 1) 1 c l (iE c) _ _ (wT _) (pF.okc _) (Cb hF.fit) g1 g2 g3 g4
  rw[← wG] at x2
  exact⟨2,_,_,_,[rv (mW (dj (toX c) (l.map Int.toNat)))]++[iv 0],[],aP A8 rfl x1 x2,lC (qJ _ _) rfl,Wk.refl (by rw[wG];exact pF.idf _),Wk.refl rfl,trivial⟩
 ·rw[if_neg h0]
  obtain⟨st,x1,x2⟩:=acz LV1 (runK (CC LV1) 1) 1 c l (iE c) _ (Cb hF.fit) h0 g1 g2
  refine⟨2,_,_,_,[.agg rz,iv _],[],aP A8 rfl x1 x2,rfl,?_,Wk.refl rfl,trivial⟩
  exact (show Rp (.agg rz) none from .inr ⟨rfl,rfl⟩).wk
theorem wj (hp:List Blk)(p:CA):bq (snap hp bn) (eCA p)=some (eCA p,[]):=rfl
theorem tr (p:CA):aJ (eCA p)=eCA p:=by simp only[eCA,aJ,fV,ja]
theorem XS {L:Lst}(hL:bu L 42=fun a=>Tt (aJ a))(run:ar)(c:List (List ByteArray))(l:List Int)(hF:me c)(h9:l.length≤1000):au L run 42 [cE c,aE l] (.tup [rv (ef c l).1,iv (ef c l).2]) :=
 fH YV (e:=eCA) (f:=fun p=>[rv (ef p.1 p.2).1,iv (ef p.1 p.2).2]) hL (fun x y _ _ h=>by rw[pc h]) run (c,l) ⟨hF,h9⟩ (wj · _) (tr _)
theorem B6 {c:List (List ByteArray)}{l:List Int}(hF:me c):Rb 100000 (vv (ef c l).1):=by
 unfold ef
 by_cases h0:gw c l ((iE c+1:Nat):Int)=0
 ·rw[if_pos h0]
  obtain⟨h1,h2,h3⟩:=vL h0
  obtain⟨q1,q2,q3,q4,q5⟩:=tn h1 hF
  have hax:=vM h1
  have hin:∀ i ∈ l.map Int.toNat,i<(toX c).length:=fun i hi=>by
   obtain⟨z,hz,rfl⟩:=mem_map.1 hi
   have:=h3 z hz
   rw[q5];omega
  have hdo:=kG q2 hin
  have hdl:(dj (toX c) (l.map Int.toNat)).length=hdL c:=by rw[fW,length_map,h2,hax];omega
  have hm:hdL c≤3:=by
   cases hc:c with
   | nil=>exact Nat.zero_le _
   | cons p r=>rw[← hc];exact (q3 (by rw[hc];simp)).2
  show Rb 100000 (vv (mW _))
  unfold mW
  refine (BX (k:=123) (by omega) _ _ fun R hR => ?_).mono ?_
  ·exact (hdo R hR).2
  ·rw[hdl]
   have:hdL c=0∨hdL c=1∨hdL c=2∨hdL c=3:=by omega
   rcases this with h | h | h | h <;> rw[h] <;> decide
 ·rw[if_neg h0]
  exact (Rb.zero 0).mono (by omega)
theorem X3 (L:Lst)(run:ar)(k:Nat)(c:List (List ByteArray))(l:List Int)(cs:List PV)(e:Nat)(lg:Bool)(t:ByteArray)(hcs:cs.length=4)(hok:bh cs=true)(g1:au L run 42 [cE c,aE l] (.tup [.agg cs,iv e]))(g2:au L run 43 [.agg cs] (.sc (.bool lg)))(g3:au L run 44 [.agg cs] (.sc (.string t))) :
  ∃ st,af (CC L) run k (f13.body.getD .skip) ⟨entry 21 [cE c,aE l],[],[]⟩=some (.ret,st)∧aU TT st.fr st.hp f13.results.toList=some (if e=0 then (bif lg then [.sc (.string { data:=#[] }),iv 3] else [.sc (.string t),iv 0]) else [.sc (.string { data:=#[] }),iv e]):=by
 obtain⟨e1,e2,e3⟩:=cn 19 (cE c) (aE l)
 generalize entry 21 [cE c,aE l]=fr0 at *
 have ho:=dW rz cs (by rw[hcs];rfl)
 have ht:=eo cs hcs
 unfold au at g1 g2 g3
 by_cases h:e=0
 ·subst h
  simp only[iv,Int.cast_ofNat_Int] at g1 ⊢
  cases lg <;> simp[f13,af,aH,ao,aq,aG,ag,ai,aL,an,aj,aF,aA,FzZ,bc,aw,bj,az,partOf,aa,ae,ab,bd,bp,e1,e2,e3,g1,g2,g3,zRz,hok,hcs,ho,ht,aR,sR,aM,aY,bZ,aV,br,aU]
 ·have hb:((e:Int) != 0)=true:=by simp;omega
  rw[if_neg h]
  simp only[iv] at g1 ⊢
  simp[f13,af,aH,ao,aq,aG,ag,ai,aL,an,aj,aF,aA,FzZ,bc,aw,bj,az,aa,ae,ab,bd,bp,e1,e2,e3,g1,hb,zRz,hok,hcs,ho,sR,aM,aY,bZ,aU]
theorem FI (L:Lst)(run:ar)(k:Nat)(c:List (List ByteArray))(l:List Int)(cs:List PV)(e:Nat)(s:Int)(hcs:cs.length=4)(hok:bh cs=true)(g1:au L run 42 [cE c,aE l] (.tup [.agg cs,iv e]))(g2:au L run 49 [.agg cs] (Ab.bz s)) :
  ∃ st,af (CC L) run k (f15.body.getD .skip) ⟨entry 17 [cE c,aE l],[],[]⟩=some (.ret,st)∧aU TT st.fr st.hp f15.results.toList=some [Ab.bz s,iv e]:=by
 obtain⟨e1,e2,e3⟩:=cn 15 (cE c) (aE l)
 generalize entry 17 [cE c,aE l]=fr0 at *
 have ho:=dW rz cs (by rw[hcs];rfl)
 have ht:=eo cs hcs
 unfold au at g1 g2
 simp only[iv,Ab.bz] at g1 g2 ⊢
 simp[f15,af,aH,ao,aq,aG,ag,ai,aL,an,aj,aF,aA,FzZ,az,partOf,aa,ae,ab,bd,bp,e1,e2,e3,g1,g2,zRz,hok,hcs,ho,ht,aR,sR,aM,aY,bZ,aV,br,aU]
noncomputable def LV2:Lst:=(42,Tt)::LV1
theorem XA:dw base.P LV2:=⟨N3,XB⟩
def tj:PV:=.sc (.string { data:=#[] })
noncomputable def jm (x:Rat)(e:Nat):List PV:=if e=0 then (bif pB (Rb 1000 x) then [qt x,iv 0] else [tj,iv 3]) else [tj,iv e]
noncomputable def DZ:List PV→Option (List PV):=ctr eCA TI fun p=>jm (vv (ef p.1 p.2).1) (ef p.1 p.2).2
theorem N4:Ab.Spec base.P 13 DZ:=Ab.Spec.bM (C:=CC LV2) (cP XA) fun args rs h=>by
 obtain⟨⟨c,l⟩,⟨hF,h9⟩,rfl,rfl⟩:=cN h
 dsimp only at hF h9
 have g1:=XS (L:=LV2) rfl (runK (CC LV2) 1) c l hF h9
 have hb:=B6 (l:=l) hF
 have g2:=LN (L:=LV2) rfl (runK (CC LV2) 1) hb (by omega)
 have g3:=acX (L:=LV2) rfl (runK (CC LV2) 1) hb (by omega)
 show ∃ k rs1 hp1 wr rs2 ids,runK (CC LV2) k 13 [cE c,aE l] []=_∧_∧WkL rs2 (jm (vv (ef c l).1) (ef c l).2)
 rw[wG] at g1 g2 g3
 obtain⟨st,x1,x2⟩:=X3 LV2 (runK (CC LV2) 1) 1 c l _ (ef c l).2 _ _ (wT _) (pF.okc _) g1 g2 g3
 unfold jm
 by_cases h0:(ef c l).2=0
 ·rw[if_pos h0] at x2 ⊢
  cases hp:pB (Rb 1000 (vv (ef c l).1)) with
  | true =>
   rw[hp] at x2
   exact⟨2,_,_,_,_,_,aP tB rfl x1 x2,rfl,Wk.refl rfl,Wk.refl rfl,trivial⟩
  | false =>
   rw[hp] at x2
   exact⟨2,_,_,_,_,_,aP tB rfl x1 x2,rfl,Wk.refl rfl,Wk.refl rfl,trivial⟩
 ·rw[if_neg h0] at x2 ⊢
  exact⟨2,_,_,_,_,_,aP tB rfl x1 x2,rfl,Wk.refl rfl,Wk.refl rfl,trivial⟩
noncomputable def nV (c:List (List ByteArray))(l:List Int):Int:=gp (vv (ef c l).1)
noncomputable def iX:List PV→Option (List PV):=ctr eCA TI fun p=>[Ab.bz (nV p.1 p.2),iv (ef p.1 p.2).2]
theorem qZ:Ab.Spec base.P 15 iX:=Ab.Spec.bM (C:=CC LV2) (cP XA) fun args rs h=>by
 obtain⟨⟨c,l⟩,⟨hF,h9⟩,rfl,rfl⟩:=cN h
 dsimp only at hF h9
 have g1:=XS (L:=LV2) rfl (runK (CC LV2) 1) c l hF h9
 have g2:=LM (L:=LV2) rfl (runK (CC LV2) 1) (B6 (l:=l) hF) (by omega)
 rw[wG] at g1 g2
 obtain⟨st,x1,x2⟩:=FI LV2 (runK (CC LV2) 1) 1 c l _ (ef c l).2 _ (wT _) (pF.okc _) g1 g2
 exact⟨2,_,_,_,_,_,aP Cr rfl x1 x2,rfl,Wk.refl rfl,Wk.refl rfl,trivial⟩
theorem PB {L:Lst}(hL:bu L 15=fun a=>iX (aJ a))(run:ar)(c:List (List ByteArray))(l:List Int)(hF:me c)(h9:l.length≤1000):au L run 15 [cE c,aE l] (.tup [Ab.bz (nV c l),iv (ef c l).2]) :=
 fH wC (e:=eCA) (f:=fun p=>[Ab.bz (nV p.1 p.2),iv (ef p.1 p.2).2]) hL (fun x y _ _ h=>by rw[pc h]) run (c,l) ⟨hF,h9⟩ (wj · _) (tr _)
def RowsIn (hp:List Blk)(id:Nat):List PV→List (List Rat)→Prop
 | [],[]=>True
 | v::vs,R::Rs=>(∃ j,v = .own j 4 0 R.length false∧j≠id∧aY hp j=some ⟨.live,R.flatMap rcs⟩)∧RowsIn hp id vs Rs
 | _,_=>False
theorem RowsIn.len {hp:List Blk}{id:Nat} : ∀ {vs:List PV} {Rs:List (List Rat)},RowsIn hp id vs Rs→vs.length=Rs.length
 | [],[],_=>rfl
 | v::vs,R::Rs,h=>by rw[length_cons,length_cons,RowsIn.len h.2]
 | [],_::_,h=>h.elim
 | _::_,[],h=>h.elim
theorem RowsIn.mono {hp hp':List Blk}{id id':Nat}(h1:∀ j,j≠id→j<hp.length→aY hp' j=aY hp j∧j≠id'):∀ {vs:List PV} {Rs:List (List Rat)},RowsIn hp id vs Rs→RowsIn hp' id' vs Rs
 | [],[],_=>trivial
 | v::vs,R::Rs,⟨⟨j,e1,e2,e3⟩,h⟩=>by
  have hj:j<hp.length:=by
   rw[cZ] at e3
   exact (List.getElem?_eq_some_iff.1 e3).1
  obtain⟨m1,m2⟩:=h1 j e2 hj
  exact⟨⟨j,e1,m2,by rw[m1,e3]⟩,RowsIn.mono h1 h⟩
 | [],_::_,h=>h.elim
 | _::_,[],h=>h.elim
theorem RowsIn.snoc {hp:List Blk}{id j:Nat}{R:List Rat}(hj:j≠id)(hb:aY hp j=some ⟨.live,R.flatMap rcs⟩):∀ {vs:List PV} {Rs:List (List Rat)},RowsIn hp id vs Rs→RowsIn hp id (vs++[.own j 4 0 R.length false]) (Rs++[R])
 | [],[],_=>⟨⟨j,rfl,hj,hb⟩,trivial⟩
 | v::vs,S::Rs,h=>⟨h.1,RowsIn.snoc hj hb h.2⟩
 | [],_::_,h=>h.elim
 | _::_,[],h=>h.elim
theorem RowsIn.snap {hp:List Blk}{id:Nat} : ∀ {vs:List PV} {Rs:List (List Rat)},RowsIn hp id vs Rs→∃ ids,bq (Ab.snap hp 11) vs=some (Rs.flatMap eV,ids)
 | [],[],_=>⟨[],rfl⟩
 | v::vs,R::Rs,⟨⟨j,e1,_,e3⟩,h⟩=>by
  obtain⟨ids,hi⟩:=RowsIn.snap h
  have ht:bF (br (R.flatMap rcs) 0) (R.length*4)=some (R.flatMap rcs):=by
   have:=si cD.toEl R []
   rw[append_nil] at this
   rw[cA,drop_zero,this]
  have h1:Ab.snap hp (10+1) v=some (vR R,[j]):=by
   rw[e1,Ab.snap]
   simp only[e3]
   rw[if_neg (by simp),ht]
   simp only[cD.sns hp 9 R]
   rfl
  refine⟨[j]++ids,?_⟩
  simp only[bq,h1,hi]
  rfl
 | [],_::_,h=>h.elim
 | _::_,[],h=>h.elim
theorem RowsIn.okc {hp:List Blk}{id:Nat} : ∀ {vs:List PV} {Rs:List (List Rat)},RowsIn hp id vs Rs→bh vs=true
 | [],[],_=>rfl
 | v::vs,R::Rs,⟨⟨j,e1,_,_⟩,h⟩=>by rw[bh,RowsIn.okc h,e1];rfl
 | [],_::_,h=>h.elim
 | _::_,[],h=>h.elim
def y6 (hp:List Blk)(Rs:List (List Rat))(p:PV):Prop:=(Rs=[]∧p = .sc (.slice none 0 0))∨∃ id vs,p = .own id 1 0 Rs.length false∧aY hp id=some ⟨.live,vs⟩∧RowsIn hp id vs Rs
theorem y6.app {hp:List Blk}{Rs:List (List Rat)}{p:PV}(h:y6 hp Rs p)(R:List Rat)(h9:Rs.length≤1000) :
  ∃ p' hp' fp,cJ (aM (aM hp (R.flatMap rcs)) [.own hp.length 4 0 R.length false]) 1 p 1 [.own hp.length 4 0 R.length false]=some (p',hp',fp)∧y6 hp' (Rs++[R]) p':=by
 have n1:∀ cs:List PV,(aM hp cs).length=hp.length+1:=fun cs=>by simp[aM]
 have n2:(aM (aM hp (R.flatMap rcs)) [.own hp.length 4 0 R.length false]).length=hp.length+2:=by simp[aM]
 have hl:∀ j,j<hp.length→aY (aM (aM hp (R.flatMap rcs)) [.own hp.length 4 0 R.length false]) j=aY hp j:=fun j hj=>by
  rw[bK,if_neg (by rw[n1];omega),bK,if_neg (by omega)]
 have hr:aY (aM (aM hp (R.flatMap rcs)) [.own hp.length 4 0 R.length false]) hp.length=some ⟨.live,R.flatMap rcs⟩:=by
  rw[bK,if_neg (by rw[n1];omega),al1]
 rcases h with ⟨rfl,rfl⟩| ⟨id,vs,rfl,hb,hR⟩
 ·refine⟨_,_,_,rfl,.inr ⟨_,[.own hp.length 4 0 R.length false],rfl,al1 _ _,⟨⟨hp.length,rfl,by rw[n2];omega,?_⟩,trivial⟩⟩⟩
  rw[bK,if_neg (by rw[n2];omega),hr]
 ·have hid:id<hp.length:=by
   rw[cZ] at hb
   exact (List.getElem?_eq_some_iff.1 hb).1
  have hb':=(hl id hid).trans hb
  have ht:bF (br vs 0) (Rs.length*1)=some vs:=by
   rw[cA,drop_zero,Nat.mul_one,dh (by rw[hR.len];exact Nat.le_refl _),← hR.len,take_length]
  have hm:Rs.length+1≤cS:=Nat.le_trans (show Rs.length+1≤1001 by omega) (by decide)
  have ha:cJ (aM (aM hp (R.flatMap rcs)) [.own hp.length 4 0 R.length false]) 1 (.own id 1 0 Rs.length false) 1 [.own hp.length 4 0 R.length false]=some (.own (hp.length+2) 1 0 (Rs.length+1) false,aM (bZ (aM (aM hp (R.flatMap rcs)) [.own hp.length 4 0 R.length false]) id ⟨.dead,[]⟩) (vs++[.own hp.length 4 0 R.length false]),⟨[],[id,hp.length+2],true,false⟩):=by
   simp only[cJ,hb',ht,n2]
   rw[if_neg (by simp),if_pos hm]
  refine⟨_,_,_,ha,.inr ⟨hp.length+2,vs++[.own hp.length 4 0 R.length false],by simp,?_,?_⟩⟩
  ·rw[bK,bL,n2,if_pos rfl]
  ·refine RowsIn.snoc (by omega) ?_ (RowsIn.mono (fun j hj hj2=>⟨?_,by omega⟩) hR)
   ·rw[bK,bL,n2,if_neg (by omega),cT hb',if_neg (by omega),hr]
   ·rw[bK,bL,n2,if_neg (by omega),cT hb',if_neg (by omega),hl j hj2]
theorem y6.snap {hp:List Blk}{Rs:List (List Rat)}{p:PV}(h:y6 hp Rs p):∃ q ids,bq (Ab.snap hp bn) [p]=some ([q],ids)∧canon q=mC Rs:=by
 rcases h with ⟨rfl,rfl⟩| ⟨id,vs,rfl,hb,hR⟩
 ·exact⟨.sc (.slice none 0 0),[],rfl,rfl⟩
 ·obtain⟨ids,hi⟩:=hR.snap
  have ht:bF (br vs 0) (Rs.length*1)=some vs:=by
   rw[cA,drop_zero,Nat.mul_one,dh (by rw[hR.len];exact Nat.le_refl _),← hR.len,take_length]
  have h1:Ab.snap hp (11+1) (.own id 1 0 Rs.length false)=some (mC Rs,id::ids):=by
   rw[Ab.snap]
   simp only[hb]
   rw[if_neg (by simp),ht]
   simp only[hi]
   rfl
  refine⟨mC Rs,(id::ids)++[],?_,aiN.B8 Rs⟩
  show bq (Ab.snap hp 12) _=_
  simp only[bq,h1]
theorem aho {L:Lst}(hL:bu L 62=fun a=>sU (aJ a))(run:ar)(dr:Bool){hp:List Blk}{M:List (List Rat)}{p:PV}(h:y6 hp M p){n k:Nat}(hn:n≤4)(hk:k≤1000)(hM:M.length=n)(hR:∀ R ∈ M,R.length=n∧RbL k R):∃ hp' fp,bX (CC L) run dr hp 62 [p]=some (rv (mW M),hp',fp):=by
 obtain⟨q,ids,h1,h2⟩:=h.snap
 have h3:(CC L).orc 62 [q]=some [rv (mW M)]:=by
  show bu L 62 [q]=_
  rw[hL]
  show sU (aJ [q])=_
  rw[show aJ [q]=[mC M] by simp only[aJ,h2]]
  exact jn (e:=fun M:List (List Rat)=>[mC M]) (x:=M) (fun x y hx hy h=>by
   obtain⟨_,_,_,h1⟩:=hx
   obtain⟨_,_,_,h2⟩:=hy
   rw[UH (fun R hR=>(h1 R hR).2) (fun R hR=>(h2 R hR).2) (by omega) (by simpa using h)]) ⟨n,hn,hM,fun R hRm=>⟨(hR R hRm).1,fun x hx=>((hR R hRm).2 x hx).mono hk⟩⟩
 by_cases hs:[rv (mW M)].all eE=true
 ·exact⟨_,_,kl wB h1 h3 hs⟩
 ·exact⟨_,_,eJ wB h1 h3 (by simpa using hs)⟩
def lift (X:List (List Rat))(q i:Nat):List Rat:=dy (X.getD i []) (X.getD q [])++[dot (dy (X.getD i []) (X.getD q [])) (dy (X.getD i []) (X.getD q []))]
theorem kh:base.F.get 19=some f19:=by kernel_rfl
theorem GM:base.shared 19=false:=by kernel_rfl
noncomputable def spC:Code:=f19.body.getD .skip
noncomputable def spB:Code:=(aC spC).getD .skip
def SpF (fr:List PV)(X:List (List Rat))(l:List Nat)(V:List Rat)(s:Int)(i:Nat):Prop:=fr.length=73∧nth fr 0=qC X∧nth fr 8 = .sc (.int .i64 s)∧nth fr 10=dp true V∧nth fr 39=aN l∧nth fr 40=iv l.length∧nth fr 41=iv i
theorem ad3 (L:Lst)(run:ar)(k:Nat)(fr:List PV)(hp:List Blk)(wr:List Nat)(X:List (List Rat))(l:List Nat)(V:List Rat)(s:Int)(h:SpF fr X l V s l.length) :
  ∃ fr',af (CC L) run k spB ⟨fr,hp,wr⟩=some (.exit 0,⟨fr',hp,wr⟩)∧SpF fr' X l V s l.length∧nth fr' 11=nth fr 11:=by
 obtain⟨h0,h1,h8,h10,h39,h40,h41⟩:=h
 simp only[iv] at h40 h41
 simp[SpF,iv,spB,spC,f19,aC,af,aH,ao,aq,aG,ag,ai,an,aj,aF,aA,FzZ,bc,aw,bj,aa,ae,ab,and_assoc,h0,h1,h8,h10,h39,h40,h41]
set_option maxHeartbeats 1000000 in
theorem QS (L:Lst)(run:ar)(k:Nat)(fr:List PV)(hp:List Blk)(wr:List Nat)(X:List (List Rat))(l:List Nat)(V W:List Rat)(d:Rat)(s:Int)(i:Nat)(Rs:List (List Rat))(hi:i<l.length)(h9:l.length≤1000)(ho9:Rs.length≤1000)(hW9:W.length≤1000)(hX:l[i]<X.length)(g1:au L run 59 [qL X[l[i]]] (dp true X[l[i]]))(g2:au L run 60 [dp true X[l[i]],dp true V] (dp true W))(g3:au L run 61 [dp true W,dp true W] (rv (some d)))(hO:y6 hp Rs (nth fr 11))(h:SpF fr X l V s i) :
  ∃ fr' hp' wr',af (CC L) run k spB ⟨fr,hp,wr⟩=some (.normal,⟨fr',hp',wr'⟩)∧SpF fr' X l V s (i+1)∧y6 hp' (Rs++[W++[d]]) (nth fr' 11):=by
 obtain⟨h0,h1,h8,h10,h39,h40,h41⟩:=h
 have hi':i<(l.map Int.ofNat).length:=by simpa using hi
 obtain⟨r,x1,x2⟩:=nm (l.map Int.ofNat) i hi'
 have hX':l[i]<(X.map fun P=>P.map qb).length:=by simpa using hX
 obtain⟨r',y1,y2⟩:=gi uCl (X.map fun P=>P.map qb) l[i] hX'
 have e1:pE (X.map fun P=>P.map qb)[l[i]]=qL X[l[i]]:=by rw[getElem_map];rfl
 rw[e1] at y2
 rw[getElem_map] at x2
 rw[show aE (l.map Int.ofNat)=aN l from rfl] at x1
 rw[show cE (X.map fun P=>P.map qb)=qC X from rfl] at y1
 obtain⟨p',hp',fp,a1,a2⟩:=hO.app (W++[d]) ho9
 have hw:=bH i (by omega)
 have hlv:=adk (.own hp.length 4 0 (W.length+1) false) rfl
 have hid:(PV.own hp.length 4 0 (W.length+1) false).cO=false:=rfl
 have e2:(W++[d]).length=W.length+1:=by simp
 have e3:(W++[d]).flatMap rcs=W.flatMap rcs++rcs d:=by simp
 rw[e2,e3] at a1
 have hlr:eL TT 84 1 [(0,rv (some d))]=some (4,rcs d):=by
  have h1:=dW rz (rcs d) (by rw[cD.len];rfl)
  have h2:(rep 1 rz)=rz:=by simp[rep]
  have h3:=cD.len d
  have h4:rz.length=4:=rfl
  simp[eL,uY,sR,zRz,h2,dA,ji,bp,h3,h4,h1]
 have hidr:=cD.idf d
 have hrr:∀ hp,ew hp 4 (.imm 1 true (rcs d))=some (1,rcs d,[]):=fun hp=>by simp[ew,cD.len]
 have hokr:=cD.okc d
 have hm9:W.length+1≤cS:=Nat.le_trans (show W.length+1≤1001 by omega) (by decide)
 have har:cJ hp 4 (dp true W) 1 (rcs d)=some (.own hp.length 4 0 (W.length+1) false,aM hp (W.flatMap rcs++rcs d),⟨[],[hp.length],true,false⟩):=by
  unfold dp
  simp only[cJ]
  rw[if_neg (by omega),if_pos ⟨hm9,iH W⟩]
 have hzl:rz.length=4:=rfl
 have hrd:ew (aM (aM hp (W.flatMap rcs++rcs d)) [.own hp.length 4 0 (W.length+1) false]) 1 (.own (aM hp (W.flatMap rcs++rcs d)).length 1 0 1 true)=some (1,[.own hp.length 4 0 (W.length+1) false],[(aM hp (W.flatMap rcs++rcs d)).length]):=by
  have:=al1 (aM hp (W.flatMap rcs++rcs d)) [.own hp.length 4 0 (W.length+1) false]
  simp[ew,this,br,bF]
 unfold au at g1 g2 g3
 generalize rcs d=cd at *
 generalize dp true W=w at *
 generalize dp true X[l[i]]=u at *
 generalize qL X[l[i]]=q at *
 generalize l[i]=j at *
 generalize W.flatMap rcs++cd=rw' at *
 rw[show Int.ofNat j=(j:Int) from rfl] at x2
 simp only[iv] at h40 h41
 simp[SpF,iv,spB,spC,f19,aC,af,aH,ao,aq,aG,ag,ai,aL,an,aj,aF,aA,FzZ,bc,aw,bj,az,partOf,aa,ae,ab,bd,and_assoc,kC,bh,h0,h1,h8,h10,h39,h40,h41,hi,x1,x2,y1,y2,g1,g2,g3,hlv,hlr,hid,hidr,hrr,hrd,hokr,har,hw,aI,sI,aPt,sPt,aV,bU,kO,uY,pM,aiW,adD,sR,bR,zRz,hzl,cg,a1,a2]
end Go.Proofs.YtjdmodeenbdfpaaGreat
