/- Contracts of fractions, clouds and predicates, part 39 of the proof; each lemma states its own conditions. -/
import Derived.Test.YtjdmodeenbdfpaaGreatQ38
set_option linter.unusedSimpArgs false
set_option linter.unusedVariables false
namespace Go.Proofs.YtjdmodeenbdfpaaGreat
open Go Go.Ab
theorem xz:base.F.get 44=some Tryz.f44:=by kernel_rfl
theorem Oo:base.F.get 110=some Tryz.f110:=by kernel_rfl
theorem WA:base.shared 110=false:=by kernel_rfl
theorem xy:base.F.get 133=some Tryz.f133:=by kernel_rfl
theorem Pd:base.shared 133=false:=by kernel_rfl
theorem EZ:base.F.get 77=some Tryz.f77:=by kernel_rfl
theorem Lc:base.shared 77=false:=by kernel_rfl
theorem FJ:base.shared 108=false:=by kernel_rfl
theorem Pe:base.shared 43=false:=by kernel_rfl
noncomputable def LQ2:Lst:=[(95,Bj),(97,ofF),(96,rM),(98,OK),(105,G9),(104,pI),(108,rrF),(43,mr)]
theorem Bv:dM base.P LQ2:=⟨wZ,nI,qf,KJ,wb,rB,AD,oz,trivial⟩
theorem Lo (L:Lst)(run:aq)(k:Nat)(a b e1 o:Int)(s:ByteArray)(g1:ar L run 95 [bV a b] (bn e1))(g2:ar L run 97 [.sc (.int .i64 1)] (bn o))(g3:ar L run 96 [bn e1,bn o] (Ab.bC 0))(g4:ar L run 98 [bn a] (.sc (.string s))) :
  ∃ st,af (CC L) run k (Tryz.f44.body.getD .skip) ⟨entry 20 [bV a b],[],[]⟩=some (.ret,st)∧aV TT st.fr st.hp Tryz.f44.results.toList=some [.sc (.string s)]:=by
 obtain⟨h1,h2⟩:=cQ 19 (bV a b)
 generalize entry 20 [bV a b]=fr0 at *
 unfold ar at *
 simp only[whW,fB,Ab.bC] at *
 simp[Tryz.f44,h1,h2,af,aH,an,ao,aG,ag,ai,aO,aj,ak,aC,az,FP.none,aY,au,bf,av,bL,partOf,aa,ae,ab,bh,bm,bS,bD,bc,g1,g2,g3,g4,uR,sR,sW,aR,aW,zW,rf0,rf1,aP,aU,aZ,cf,bX,bE,br,aV,number,FP.free,cH,FP.apart,undef]
theorem FV (L:Lst)(run:aq)(k:Nat)(a b e1 c o:Int)(s t r1 r2:ByteArray)(hc:c≠0)(h1:ef .add s { data:=#[47] } = some (.string r1))(h2:ef .add r1 t=some (.string r2))(g1:ar L run 95 [bV a b] (bn e1))(g2:ar L run 97 [.sc (.int .i64 1)] (bn o))(g3:ar L run 96 [bn e1,bn o] (Ab.bC c))(g4:ar L run 98 [bn a] (.sc (.string s)))(g5:ar L run 98 [bn e1] (.sc (.string t))) :
  ∃ st,af (CC L) run k (Tryz.f44.body.getD .skip) ⟨entry 20 [bV a b],[],[]⟩=some (.ret,st)∧aV TT st.fr st.hp Tryz.f44.results.toList=some [.sc (.string r2)]:=by
 obtain⟨e1,e2⟩:=cQ 19 (bV a b)
 generalize entry 20 [bV a b]=fr0 at *
 unfold ar at *
 simp only[whW,fB,Ab.bC] at *
 have hc2:(c != 0)=true:=by simp[hc]
 simp[Tryz.f44,e1,e2,af,aH,an,ao,aG,ag,ai,aO,aj,ak,aC,az,FP.none,aY,au,bf,av,bL,partOf,aa,ae,ab,bh,bm,bS,bD,bc,g1,g2,g3,g4,g5,h1,h2,hc2,uR,sR,sW,aR,aW,zW,rf0,rf1,aP,aU,aZ,cf,bX,bE,br,aV,number,FP.free,cH,FP.apart,undef]
theorem afX {L:Lst}(hL:bu L 95=fun a=>Bj (aJ a))(run:aq){u:Option Rat}{j:Nat}(hu:Rb j (vv u))(h:j≤2000000):ar L run 95 [rv u] (bn (vv u).den):=by
 obtain⟨b,b1,b2,b3,b4⟩:=ob hu h
 intro dr hp
 rw[b1]
 exact bp Pk hL run dr hp _ [bn (vv u).den] (sY hp _ _) (xj _ _) (by
  rw[b1] at b3
  simp only[Bj,b3,b2])
theorem afW {L:Lst}(hL:bu L 97=fun a=>ofF (aJ a))(run:aq):ar L run 97 [.sc (.int .i64 1)] (bn 1):=fun dr hp =>
 bp yr hL run dr hp _ [bn 1] rfl rfl rfl
theorem aea {L:Lst}(hL:bu L 96=fun a=>rM (aJ a))(run:aq)(x y:Int)(hx:Sm x)(hy:Sm y):ar L run 96 [bn x,bn y] (Ab.bC (fD x y)):=fun dr hp =>
 bp FM hL run dr hp _ [Ab.bC (fD x y)] (gC hp x y) (fk x y) (by simp only[rM,cG hx,cG hy])
theorem aei {L:Lst}(hL:bu L 104=fun a=>pI (aJ a))(run:aq)(x y:Int)(hx:Sm x)(hy:Sm y)(h0:y≠0):ar L run 104 [bn x,bn y] (rv (some (Rat.divInt x y))):=fun dr hp =>
 bp I6 hL run dr hp _ [rv (some (Rat.divInt x y))] (gC hp x y) (fk x y) (by
  have h:(!(y.natAbs.beq 0))=true:=by rw[oW (by omega)];rfl
  simp only[pI,cG hx,cG hy,h,cond_true,nD,(sX x y h0).1,(sX x y h0).2])
theorem abr {u v:Option Rat}{j:Nat}(hu:Rb j (vv u))(hv:Rb j (vv v))(h9:j≤2000000)(h:rv u=rv v):u=v:=by
 cases u with
 | none =>
  cases v with
  | none=>rfl
  | some y =>
   have h1:gF (bV 0 0)=some (0,0):=gT (by unfold Sm;decide) (by unfold Sm;decide)
   have h2:gF (bV y.num y.den)=some (y.num,(y.den:Int)):=gT (hv.1.sm h9) (hv.2.sm h9)
   have h3:bV 0 0=bV y.num y.den:=h
   rw[h3,h2] at h1
   simp only[Option.some.injEq,Prod.mk.injEq] at h1
   exact absurd h1.2 (HG y)
 | some x =>
  have h2:gF (bV x.num x.den)=some (x.num,(x.den:Int)):=gT (hu.1.sm h9) (hu.2.sm h9)
  cases v with
  | none =>
   have h1:gF (bV 0 0)=some (0,0):=gT (by unfold Sm;decide) (by unfold Sm;decide)
   have h3:bV x.num x.den=bV 0 0:=h
   rw[← h3,h2] at h1
   simp only[Option.some.injEq,Prod.mk.injEq] at h1
   exact absurd h1.2 (HG x)
  | some y =>
   have h1:gF (bV y.num y.den)=some (y.num,(y.den:Int)):=gT (hv.1.sm h9) (hv.2.sm h9)
   have h3:bV x.num x.den=bV y.num y.den:=h
   rw[← h3,h2] at h1
   simp only[Option.some.injEq,Prod.mk.injEq] at h1
   congr 1
   exact Rat.ext h1.1 (by omega)
noncomputable def rtF:List PV→Option (List PV):=ctr (fun u:Option Rat=>[rv u]) (fun u=>Rb 1000000 (vv u)) fun u=>[qt (vv u)]
theorem WJ:Ab.Spec base.P 44 rtF:=Ab.Spec.bN (C:=CC LQ2) (cU Bv) fun args rs h=>by
 obtain⟨u,hu,rfl,rfl⟩:=db h
 obtain⟨b,b1,b2,b3,b4⟩:=ob hu (by omega)
 have gd:=afX (L:=LQ2) rfl (runK (CC LQ2) 1) hu (by omega)
 have go:=afW (L:=LQ2) rfl (runK (CC LQ2) 1)
 have gn:=Vu (L:=LQ2) rfl (runK (CC LQ2) 1) (vv u).num hu.1 (by omega)
 have gt:=Vu (L:=LQ2) rfl (runK (CC LQ2) 1) (vv u).den hu.2 (by omega)
 have gc:=aea (L:=LQ2) rfl (runK (CC LQ2) 1) (vv u).den 1 (hu.2.sm (by omega)) Bu
 have hp:=(vv u).den_pos
 show ∃ k rs1 hp1 wr rs2 ids,runK (CC LQ2) k 44 [rv u] []=_∧_∧WkL rs2 [qt (vv u)]
 rw[b1] at gd ⊢
 generalize vv u=x at *
 by_cases h1:(x.den:Int)=1
 ·rw[h1] at gd gc
  obtain⟨st,x1,x2⟩:=Lo LQ2 (runK (CC LQ2) 1) 1 x.num b 1 1 _ gd go gc gn
  refine⟨2,_,_,_,_,_,aQ xz rfl x1 x2,rfl,?_,trivial⟩
  have:qt x = .sc (.string (tx (ztx x.num))):=by unfold qt qb qtx;rw[if_pos h1]
  rw[this]
  exact Wk.refl rfl
 ·have hc:fD x.den 1≠0:=by
   unfold fD
   rw[if_neg (by omega),if_neg h1];decide
  have l1:=hu.1.dN
  have l2:=hu.2.dN
  have hl:∀ z:Int,(ztx z).length≤Ab.dN z+1:=fun z=>by rw[gk];cases bt z <;> simp <;> omega
  have m1:=hl x.num
  have m2:=hl x.den
  obtain⟨st,x1,x2⟩:=FV LQ2 (runK (CC LQ2) 1) 1 x.num b x.den _ 1 _ _ _ _ hc (N6 (ztx x.num) [47] (by simp;omega)) (N6 (ztx x.num++[47]) (ztx x.den) (by simp;omega)) gd go gc gn gt
  refine⟨2,_,_,_,_,_,aQ xz rfl x1 x2,rfl,?_,trivial⟩
  have:qt x = .sc (.string (tx (ztx x.num++[47]++ztx x.den))):=by unfold qt qb qtx;rw[if_neg h1];simp
  rw[this]
  exact Wk.refl rfl
theorem Nr (L:Lst)(run:aq)(k:Nat)(a b x y n m:Int)(g1:ar L run 97 [.sc (.int .i64 a)] (bn x))(g2:ar L run 97 [.sc (.int .i64 b)] (bn y))(g3:ar L run 104 [bn x,bn y] (bV n m)) :
  ∃ st,af (CC L) run k (Tryz.f110.body.getD .skip) ⟨entry 10 [.sc (.int .i64 a),.sc (.int .i64 b)],[],[]⟩=some (.ret,st)∧aV TT st.fr st.hp Tryz.f110.results.toList=some [bV n m]:=by
 obtain⟨h1,h2,h3⟩:=cn 8 (.sc (.int .i64 a)) (.sc (.int .i64 b))
 generalize entry 10 [.sc (.int .i64 a),.sc (.int .i64 b)]=fr0 at *
 unfold ar at *
 simp only[whW,fB] at *
 simp[Tryz.f110,h1,h2,h3,af,aH,an,ao,aG,ag,ai,aO,aj,ak,aC,az,FP.none,partOf,aa,ae,ab,bh,bm,bS,bD,bc,g1,g2,g3,sR,aR,zR,aP,aU,aZ,cf,bX,bE,br,aV,number,FP.free]
def D0:List PV→Option (List PV)
 | [.sc (.int .i64 1),.sc (.int .i64 1)]=>some [rv (some 1)]
 | [.sc (.int .i64 1),.sc (.int .i64 2)]=>some [rv (some (1 / 2))]
 | [.sc (.int .i64 2),.sc (.int .i64 1)]=>some [rv (some 2)]
 | _=>none
theorem wI (a b:Nat)(h0:b≠0)(ha:(a:Int)=1∨(a:Int)=2)(hb:(b:Int)=1∨(b:Int)=2):∃ k rs1 hp1 wr rs2 ids,runK (CC LQ2) k 110 [.sc (.int .i64 (a:Int)),.sc (.int .i64 (b:Int))] []=some (rs1,hp1,wr)∧bq (snap hp1 bj) rs1=some (rs2,ids)∧WkL rs2 [rv (some (Rat.divInt a b))]:=by
 have go:∀ z:Int,z=1∨z=2→ar LQ2 (runK (CC LQ2) 1) 97 [.sc (.int .i64 z)] (bn z):=fun z hz dr hp =>
  bp (L:=LQ2) (f:=ofF) yr rfl _ dr hp _ [bn z] rfl rfl (by rcases hz with rfl | rfl <;> rfl)
 have gv:=aei (L:=LQ2) rfl (runK (CC LQ2) 1) a b (by rcases ha with h | h <;> rw[h] <;> unfold Sm <;> decide) (by rcases hb with h | h <;> rw[h] <;> unfold Sm <;> decide) (by omega)
 obtain⟨st,x1,x2⟩:=Nr LQ2 (runK (CC LQ2) 1) 1 a b a b _ _ (go _ ha) (go _ hb) gv
 exact⟨2,_,_,_,_,_,aQ Oo rfl x1 x2,rfl,Wk.refl rfl,trivial⟩
theorem Nq:Ab.Spec base.P 110 D0:=Ab.Spec.bN (C:=CC LQ2) (cU Bv) fun args rs h=>by
 unfold D0 at h
 split at h
 ·simp only[Option.some.injEq] at h
  subst h
  exact wI 1 1 (by omega) (.inl rfl) (.inl rfl)
 ·simp only[Option.some.injEq] at h
  subst h
  have e:(1 / 2:Rat)=Rat.divInt (1:Nat) (2:Nat):=by rw[wV];rfl
  rw[e]
  exact wI 1 2 (by omega) (.inl rfl) (.inr rfl)
 ·simp only[Option.some.injEq] at h
  subst h
  exact wI 2 1 (by omega) (.inr rfl) (.inl rfl)
 ·cases h
theorem aek {L:Lst}(hL:bu L 110=fun a=>D0 (aJ a))(run:aq):ar L run 110 [.sc (.int .i64 1),.sc (.int .i64 1)] (rv (some 1)):=fun dr hp =>
 bp WA hL run dr hp _ [rv (some 1)] rfl rfl rfl
def IsV (s:ByteArray):Prop:=∃ x:Rat,s=qb x∧Rb 1000 x
noncomputable def rrP (s:ByteArray):Int × Int:=@Classical.epsilon (Int × Int) ⟨(0,0)⟩ fun p=>rrF [.sc (.string s)]=some [bV p.1 p.2,.sc (.bool (pB (IsQ s)))]
theorem FX (s:ByteArray)(h9:(bys s).length≤1000000):rrF [.sc (.string s)]=some [bV (rrP s).1 (rrP s).2,.sc (.bool (pB (IsQ s)))]∧∀ x,s=qb x→bV (rrP s).1 (rrP s).2=rv (some x):=by
 obtain⟨n,d,h1,h2,-⟩:=aeG s h9
 have h3:rrF [.sc (.string s)]=some [bV (rrP s).1 (rrP s).2,.sc (.bool (pB (IsQ s)))]:=Classical.epsilon_spec (p:=fun p:Int × Int=>rrF [.sc (.string s)]=some [bV p.1 p.2,.sc (.bool (pB (IsQ s)))]) ⟨(n,d),h1⟩
 refine⟨h3,fun x hx => ?_⟩
 rw[h1] at h3
 simp only[Option.some.injEq,List.cons.injEq,and_true] at h3
 rw[← h3]
 exact h2 x hx
theorem afT {L:Lst}(hL:bu L 108=fun a=>rrF (aJ a))(run:aq)(s:ByteArray)(h9:(bys s).length≤1000000):ar L run 108 [.sc (.string s)] (.tup [bV (rrP s).1 (rrP s).2,.sc (.bool (pB (IsQ s)))]):=fun dr hp =>
 bp FJ hL run dr hp _ [bV (rrP s).1 (rrP s).2,.sc (.bool (pB (IsQ s)))] rfl rfl (FX s h9).1
theorem abM {x:Rat}{k:Nat}(h:Rb k x):(bys (qb x)).length≤2*k+5:=by
 rw[HW]
 unfold qtx
 have l1:=h.1.dN
 have l2:=h.2.dN
 have hl:∀ z:Int,(ztx z).length≤Ab.dN z+1:=fun z=>by rw[gk];cases bt z <;> simp <;> omega
 have m1:=hl x.num
 have m2:=hl x.den
 split
 ·omega
 ·simp;omega
theorem afS {L:Lst}(hL:bu L 108=fun a=>rrF (aJ a))(run:aq){x:Rat}{k:Nat}(hx:Rb k x)(hk:k≤400000):ar L run 108 [qt x] (.tup [rv (some x),.sc (.bool true)]):=by
 have h9:(bys (qb x)).length≤1000000:=Nat.le_trans (abM hx) (by omega)
 have h:=afT hL run (qb x) h9
 rw[(FX (qb x) h9).2 x rfl,jK ⟨x,rfl⟩] at h
 exact h
theorem aae {L:Lst}(hL:bu L 43=fun a=>mr (aJ a))(run:aq){u:Option Rat}{j:Nat}(hu:Rb j (vv u))(h:j≤1000000):ar L run 43 [rv u] (.sc (.bool (!pB (Rb 1000 (vv u))))):=fun dr hp =>
 bp Pe hL run dr hp _ [.sc (.bool (!pB (Rb 1000 (vv u))))] (uz hp u) (zY u) (Lt hu h)
theorem WX (L:Lst)(run:aq)(k:Nat)(s:ByteArray)(n d:Int)(g1:ar L run 108 [.sc (.string s)] (.tup [bV n d,.sc (.bool false)])) :
  ∃ st,af (CC L) run k (Tryz.f133.body.getD .skip) ⟨entry 18 [.sc (.string s)],[],[]⟩=some (.ret,st)∧aV TT st.fr st.hp Tryz.f133.results.toList=some [bV n d,.sc (.bool false)]:=by
 obtain⟨h1,h2⟩:=cQ 17 (.sc (.string s))
 generalize entry 18 [.sc (.string s)]=fr0 at *
 unfold ar at *
 simp only[fB] at *
 simp[Tryz.f133,h1,h2,af,aH,an,ao,aG,ag,ai,aO,aj,ak,aC,az,FP.none,av,partOf,aa,ae,ab,bh,bm,bS,bD,bc,g1,sR,aR,zR,aP,aU,aZ,cf,bX,bE,br,aV,number,FP.free,cH,FP.apart,undef]
theorem PY (L:Lst)(run:aq)(k:Nat)(s:ByteArray)(n d:Int)(lg:Bool)(g1:ar L run 108 [.sc (.string s)] (.tup [bV n d,.sc (.bool true)]))(g2:ar L run 43 [bV n d] (.sc (.bool lg))) :
  ∃ st,af (CC L) run k (Tryz.f133.body.getD .skip) ⟨entry 18 [.sc (.string s)],[],[]⟩=some (.ret,st)∧aV TT st.fr st.hp Tryz.f133.results.toList=some [bV n d,.sc (.bool (!lg))]:=by
 obtain⟨h1,h2⟩:=cQ 17 (.sc (.string s))
 generalize entry 18 [.sc (.string s)]=fr0 at *
 unfold ar at *
 simp only[fB] at *
 simp[Tryz.f133,h1,h2,af,aH,an,ao,aG,ag,ai,aO,aj,ak,aC,az,FP.none,av,partOf,unP,aa,ae,ab,bh,bm,bS,bD,bc,g1,g2,sR,aR,zR,aP,aU,aZ,cf,bX,bE,br,aV,number,FP.free,cH,FP.apart,undef]
noncomputable def aan:List PV→Option (List PV):=ctr (fun s:ByteArray=>[.sc (.string s)]) (fun s=>(bys s).length≤100000) fun s=>[bV (rrP s).1 (rrP s).2,.sc (.bool (pB (IsV s)))]
theorem aaB {x:Rat}{k:Nat}(h:(bys (qb x)).length≤k):Rb (k+1) x:=by
 have h2:=tH (bys (qb x))
 rw[kl] at h2
 dsimp only at h2
 exact⟨H9 rfl (by omega),H9 rfl (by omega)⟩
theorem Fi:Ab.Spec base.P 133 aan:=Ab.Spec.bN (C:=CC LQ2) (cU Bv) fun args rs h=>by
 obtain⟨s,h9,rfl,rfl⟩:=db h
 have g1:=afT (L:=LQ2) rfl (runK (CC LQ2) 1) s (by omega)
 show ∃ k rs1 hp1 wr rs2 ids,_∧_∧WkL rs2 [bV (rrP s).1 (rrP s).2,.sc (.bool (pB (IsV s)))]
 by_cases hq:IsQ s
 ·rw[jK hq] at g1
  obtain⟨x,hx⟩:=hq
  have hb:Rb 100001 x:=aaB (by rw[← hx];exact h9)
  have g2:=aae (L:=LQ2) rfl (runK (CC LQ2) 1) (u:=some x) hb (by omega)
  have e:=(FX s (by omega)).2 x hx
  rw[← e] at g2
  obtain⟨st,x1,x2⟩:=PY LQ2 (runK (CC LQ2) 1) 1 s _ _ _ g1 g2
  refine⟨2,_,_,_,_,_,aQ xy rfl x1 x2,rfl,Wk.refl rfl,?_,trivial⟩
  have:pB (IsV s)=pB (Rb 1000 x):=by
   by_cases h1:Rb 1000 x
   ·rw[jK h1,jK ⟨x,hx,h1⟩]
   ·rw[jt h1,jt]
    rintro⟨y,hy,h2⟩
    have:=oG (hx.symm.trans hy)
    subst this
    exact h1 h2
  rw[this,Bool.not_not]
  exact Wk.refl rfl
 ·rw[jt hq] at g1
  have : ¬ IsV s:=fun ⟨x,hx,_⟩=>hq ⟨x,hx⟩
  rw[jt this]
  obtain⟨st,x1,x2⟩:=WX LQ2 (runK (CC LQ2) 1) 1 s _ _ g1
  exact⟨2,_,_,_,_,_,aQ xy rfl x1 x2,rfl,Wk.refl rfl,Wk.refl rfl,trivial⟩
noncomputable def LQ3:Lst:=(133,aan)::LQ2
theorem ad5:dM base.P LQ3:=⟨Fi,Bv⟩
theorem OC (L:Lst)(run:aq)(k:Nat)(s:ByteArray)(n d:Int)(v:Bool)(g1:ar L run 133 [.sc (.string s)] (.tup [bV n d,.sc (.bool v)])) :
  ∃ st,af (CC L) run k (Tryz.f77.body.getD .skip) ⟨entry 11 [.sc (.string s)],[],[]⟩=some (.ret,st)∧aV TT st.fr st.hp Tryz.f77.results.toList=some [.sc (.bool v)]:=by
 obtain⟨h1,h2⟩:=cQ 10 (.sc (.string s))
 generalize entry 11 [.sc (.string s)]=fr0 at *
 unfold ar at *
 simp only[fB] at *
 simp[Tryz.f77,h1,h2,af,aH,an,ao,aG,ag,ai,aO,aj,ak,aC,az,FP.none,av,aa,ae,ab,bh,bm,bS,bD,bc,g1,sR,zR,aP,aZ,cf,bX,aV,undef]
noncomputable def Ff:List PV→Option (List PV):=ctr (fun s:ByteArray=>[.sc (.string s)]) (fun s=>(bys s).length≤100000) fun s=>[.sc (.bool (pB (IsV s)))]
theorem pg {s t:ByteArray}(h:[PV.sc (.string s)]=[PV.sc (.string t)]):s=t:=by simpa using h
theorem Fe:Ab.Spec base.P 77 Ff:=Ab.Spec.bN (C:=CC LQ3) (cU ad5) fun args rs h=>by
 obtain⟨s,h9,rfl,rfl⟩:=db h
 have g1:ar LQ3 (runK (CC LQ3) 1) 133 [.sc (.string s)] (.tup [bV (rrP s).1 (rrP s).2,.sc (.bool (pB (IsV s)))]) :=
  iw Pd (L:=LQ3) (e:=fun s:ByteArray=>[.sc (.string s)]) (f:=fun s=>[bV (rrP s).1 (rrP s).2,.sc (.bool (pB (IsV s)))]) (ok:=fun s=>(bys s).length≤100000) rfl (fun x y _ _ h=>by rw[pg h]) _ s h9 (fun _=>rfl) rfl
 obtain⟨st,x1,x2⟩:=OC LQ3 (runK (CC LQ3) 1) 1 s _ _ _ g1
 exact⟨2,_,_,_,_,_,aQ EZ rfl x1 x2,rfl,Wk.refl rfl,trivial⟩
theorem aad {L:Lst}(hL:bu L 77=fun a=>Ff (aJ a))(run:aq)(s:ByteArray)(h9:(bys s).length≤100000):ar L run 77 [.sc (.string s)] (.sc (.bool (pB (IsV s)))) :=
 iw Lc (e:=fun s:ByteArray=>[.sc (.string s)]) hL (fun x y _ _ h=>by rw[pg h]) run s h9 (fun _=>rfl) rfl
noncomputable def LQ4:Lst:=[(48,nF),(64,isF)]
theorem ad4:dM base.P LQ4:=⟨su,YY,trivial⟩
theorem Lm (L:Lst)(run:aq)(k:Nat)(s:ByteArray)(lg v:Bool)(g1:ar L run 48 [.sc (.string s)] (.sc (.bool lg)))(g2:ar L run 64 [.sc (.string s)] (.sc (.bool v))) :
  ∃ st,af (CC L) run k (Tryz.f23.body.getD .skip) ⟨entry 10 [.sc (.string s)],[],[]⟩=some (.ret,st)∧aV TT st.fr st.hp Tryz.f23.results.toList=some [.sc (.bool (!lg && v))]:=by
 obtain⟨h1,h2⟩:=cQ 9 (.sc (.string s))
 generalize entry 10 [.sc (.string s)]=fr0 at *
 unfold ar at *
 cases lg <;> simp[Tryz.f23,h1,h2,af,aH,an,ao,aG,ag,ai,aO,aj,ak,aC,az,FP.none,av,unP,aa,ae,ab,g1,g2,aV,undef]
theorem HE (z:Int):eO (ztx z)=Ab.dN z:=by
 have h3:ztx z=(bif bt z then [45] else [])++dtx z.natAbs:=qG z
 rw[h3]
 unfold Ab.dN
 have hd:=mW z.natAbs
 cases bt z with
 | true=>rfl
 | false =>
  rw[cond_false,List.nil_append]
  cases e:dtx z.natAbs with
  | nil=>rfl
  | cons a l =>
   rw[e] at hd
   have ha:=dx.1 (fC hd List.mem_cons_self)
   show (bif a.beq 45 then l.length else (a::l).length)=_
   rw[oW (show a≠45 by omega)];rfl
theorem DB (z:Int):decide (1000<eO (ztx z)) = !pB (Nb 1000 z):=by
 rw[HE]
 unfold Ab.dN
 have h:=rK (n:=z.natAbs) (k:=1000) (by omega)
 by_cases hn:Nb 1000 z
 ·rw[jK hn,decide_eq_false (by have:=h.2 hn;omega)];rfl
 ·rw[jt hn,decide_eq_true (by
   have : ¬ (dtx z.natAbs).length≤1000:=fun e=>hn (h.1 e)
   omega)];rfl
theorem SU (x:Rat):zo (bys (qb x)) = !pB (Rb 1000 x):=by
 unfold zo
 rw[kl,DB,DB]
 by_cases h1:Nb 1000 x.num
 ·by_cases h2:Nb 1000 x.den
  ·rw[jK h1,jK h2,jK (show Rb 1000 x from ⟨h1,h2⟩)];rfl
  ·rw[jK h1,jt h2,jt (show ¬ Rb 1000 x from fun e=>h2 e.2)];rfl
 ·rw[jt h1,jt (show ¬ Rb 1000 x from fun e=>h1 e.1)];simp
noncomputable def PH:List PV→Option (List PV):=ctr (fun s:ByteArray=>[.sc (.string s)]) (fun s=>(bys s).length≤100000) fun s=>[.sc (.bool (pB (IsV s)))]
theorem Ll:Ab.Spec base.P 23 PH:=Ab.Spec.bN (C:=CC LQ4) (cU ad4) fun args rs h=>by
 obtain⟨s,h9,rfl,rfl⟩:=db h
 have g1:ar LQ4 (runK (CC LQ4) 1) 48 [.sc (.string s)] (.sc (.bool (zo (bys s)))):=fun dr hp =>
  bp (L:=LQ4) (f:=nF) K9 rfl _ dr hp _ [.sc (.bool (zo (bys s)))] rfl rfl (by
   have:(bys s).length.blt 20000000=true:=by rw[Nat.blt_eq];omega
   simp only[nF,this,cond_true])
 have g2:ar LQ4 (runK (CC LQ4) 1) 64 [.sc (.string s)] (.sc (.bool (pB (IsQ s)))) :=
  iw Wn (L:=LQ4) (e:=fun s:ByteArray=>[.sc (.string s)]) (ok:=fun s=>(bys s).length<1000000) (f:=fun s=>[.sc (.bool (pB (IsQ s)))]) rfl (fun x y _ _ h=>by rw[pg h]) _ s (show (bys s).length<1000000 by omega) (fun _=>rfl) rfl
 obtain⟨st,x1,x2⟩:=Lm LQ4 (runK (CC LQ4) 1) 1 s _ _ g1 g2
 refine⟨2,_,_,_,_,_,aQ BA rfl x1 x2,rfl,?_,trivial⟩
 have:pB (IsV s)=(!zo (bys s) && pB (IsQ s)):=by
  by_cases hq:IsQ s
  ·obtain⟨x,hx⟩:=hq
   subst hx
   rw[SU,Bool.not_not,jK (show IsQ (qb x) from ⟨x,rfl⟩),Bool.and_true]
   by_cases h1:Rb 1000 x
   ·rw[jK h1,jK ⟨x,rfl,h1⟩]
   ·rw[jt h1,jt]
    rintro⟨y,hy,h2⟩
    have:=oG hy
    subst this
    exact h1 h2
  ·rw[jt hq,Bool.and_false,jt fun ⟨x,hx,_⟩=>hq ⟨x,hx⟩]
 rw[this]
 exact Wk.refl rfl
theorem aeb {L:Lst}(hL:bu L 23=fun a=>PH (aJ a))(run:aq)(s:ByteArray)(h9:(bys s).length≤100000):ar L run 23 [.sc (.string s)] (.sc (.bool (pB (IsV s)))) :=
 iw FC (e:=fun s:ByteArray=>[.sc (.string s)]) hL (fun x y _ _ h=>by rw[pg h]) run s h9 (fun _=>rfl) rfl
def es (s:ByteArray):List PV:=[.sc (.string s)]
theorem TS:Ec 1 es where
 len:=fun _=>rfl
 okc:=fun _=>rfl
 can:=fun _=>rfl
 idf:=fun _=>rfl
 sn:=fun _ _ _=>rfl
def pE (p:List ByteArray):PV:=fJ es p
def ep (p:List ByteArray):List PV:=[pE p]
theorem adm:Ec 1 ep:=TS.list
def cE (c:List (List ByteArray)):PV:=fJ ep c
theorem uPt:und TT 39=some (.slice 27):=by kernel_rfl
theorem uCl:und TT 23=some (.slice 39):=by kernel_rfl
theorem uRs:und TT 38=some (.slice 27):=by kernel_rfl
theorem lZ:cR TT 27=some 1:=by kernel_rfl
theorem qv:fW TT 27=some false:=by kernel_rfl
theorem sPt:cR TT 39=some 1:=by kernel_rfl
theorem sCl:cR TT 23=some 1:=by kernel_rfl
theorem aCl:fW TT 23=some false:=by kernel_rfl
theorem aPt:fW TT 39=some false:=by kernel_rfl
theorem fM (p:List ByteArray):dQ (pE p)=some p.length:=rfl
theorem fV (c:List (List ByteArray)):dQ (cE c)=some c.length:=rfl
theorem qh (c:List (List ByteArray)):(cE c).cells?=some [cE c]:=rfl
theorem m4 (p:List ByteArray):canon (pE p)=pE p:=TS.HL p
theorem qk (c:List (List ByteArray)):canon (cE c)=cE c:=adm.HL c
theorem DH {t:Nat}(hu:und TT t=some (.slice 27))(p:List ByteArray)(i:Nat)(hi:i<p.length):∃ r,bg TT t (pE p) (.sc (.int .i64 (i:Int)))=some (.iptr r)∧r.head?=some (.sc (.string p[i])):=by
 have h:=pY TS.toEl p i hi
 refine⟨br (p.flatMap es) (i*1),?_,by rw[h];rfl⟩
 unfold pE fJ
 simp only[bg,hu,bk,lZ,hi,if_true]
theorem iu {t:Nat}(hu:und TT t=some (.slice 39))(c:List (List ByteArray))(i:Nat)(hi:i<c.length):∃ r,bg TT t (cE c) (.sc (.int .i64 (i:Int)))=some (.iptr r)∧r.head?=some (pE c[i]):=by
 have h:=pY adm.toEl c i hi
 refine⟨br (c.flatMap ep) (i*1),?_,by rw[h];rfl⟩
 unfold cE fJ
 simp only[bg,hu,bk,sPt,hi,if_true]
theorem G1:∀ {p q:List ByteArray},pE p=pE q→p=q
 | p,q,h=>by
  unfold pE fJ at h
  simp only[PV.imm.injEq,true_and] at h
  have:∀ (p q:List ByteArray),p.flatMap es=q.flatMap es→p=q:=by
   intro p
   induction p with
   | nil=>intro q h;cases q with
    | nil=>rfl
    | cons a q=>simp[es] at h
   | cons a p ih=>intro q h;cases q with
    | nil=>simp[es] at h
    | cons b q =>
     simp only[List.flatMap_cons,es,List.cons_append,List.nil_append,List.cons.injEq,PV.sc.injEq,Value.string.injEq] at h
     rw[h.1,ih q h.2]
  exact this p q h.2
theorem xn {c d:List (List ByteArray)}(h:cE c=cE d):c=d:=by
 unfold cE fJ at h
 simp only[PV.imm.injEq,true_and] at h
 have:∀ (p q:List (List ByteArray)),p.flatMap ep=q.flatMap ep→p=q:=by
  intro p
  induction p with
  | nil=>intro q h;cases q with
   | nil=>rfl
   | cons a q=>simp[ep] at h
  | cons a p ih=>intro q h;cases q with
   | nil=>simp[ep] at h
   | cons b q =>
    simp only[List.flatMap_cons,ep,List.cons_append,List.nil_append,List.cons.injEq] at h
    rw[G1 h.1,ih q h.2]
 exact this c d h.2
noncomputable def n7 (m:Nat)(p:List ByteArray):Nat:=if p.length=0∨3<p.length∨p.length≠m then 10 else bif p.all (fun s=>pB (IsV s)) then 0 else 1
noncomputable def je (m:Nat):List (List ByteArray)→Nat
 | []=>0
 | p::r=>if n7 m p=0 then je m r else n7 m p
def hdL (c:List (List ByteArray)):Nat:=match c with
 | []=>0
 | p::_=>p.length
noncomputable def chk (c:List (List ByteArray)):Nat:=if 64<c.length then 3 else je (hdL c) c
def Fit (c:List (List ByteArray)):Prop:=c.length≤100∧∀ p ∈ c,p.length≤100∧∀ s ∈ p,(bys s).length≤100000
theorem E9:base.F.get 80=some Tryz.f80:=by kernel_rfl
theorem Li:base.shared 80=false:=by kernel_rfl
noncomputable def ckC:Code:=Tryz.f80.body.getD .skip
noncomputable def ckO:Code:=(aF ckC).getD .skip
noncomputable def ckI:Code:=(aF ckO).getD .skip
def CF (fr:List PV)(c:List (List ByteArray))(j:Nat):Prop:=fr.length=44∧nth fr 0=cE c∧nth fr 10=cE c∧nth fr 11=iv c.length∧nth fr 12=iv j
theorem ZT (L:Lst)(run:aq)(k:Nat)(fr:List PV)(c:List (List ByteArray))(j:Nat)(n:Nat)(h:CF fr c j)(h34:nth fr 34=iv n)(h35:nth fr 35=iv n) :
  ∃ fr',af (CC L) run k ckI ⟨fr,[],[]⟩=some (.exit 2,⟨fr',[],[]⟩)∧CF fr' c j:=by
 obtain⟨h0,h1,h10,h11,h12⟩:=h
 simp only[iv] at h34 h35 h11 h12
 simp[CF,iv,ckI,ckO,ckC,Tryz.f80,aF,af,aH,an,ao,aG,ag,ai,aj,ak,aC,az,FP.none,aY,au,bf,aa,ae,ab,h0,h1,h10,h11,h12,h34,h35]
theorem NF (L:Lst)(run:aq)(k:Nat)(fr:List PV)(c:List (List ByteArray))(j:Nat)(p:List ByteArray)(i:Nat)(hi:i<p.length)(h9:p.length≤100)(v:Bool)(g:ar L run 77 [.sc (.string p[i])] (.sc (.bool v)))(h:CF fr c j)(h33:nth fr 33=pE p)(h34:nth fr 34=iv p.length)(h35:nth fr 35=iv i) :
  ∃ fr',af (CC L) run k ckI ⟨fr,[],[]⟩=some (bif v then .normal else .ret,⟨fr',[],[]⟩)∧(v=true→CF fr' c j∧nth fr' 33=pE p∧nth fr' 34=iv p.length∧nth fr' 35=iv (i+1))∧(v=false→nth fr' 2=iv 1):=by
 obtain⟨h0,h1,h10,h11,h12⟩:=h
 obtain⟨r,x1,x2⟩:=DH uPt p i hi
 have hw:=bJ i (by omega)
 unfold ar at g
 generalize p[i]=s at *
 simp only[iv] at h34 h35 h11 h12
 cases v <;> simp[CF,iv,ckI,ckO,ckC,Tryz.f80,aF,af,aH,an,ao,aG,ag,ai,aO,aj,ak,aC,az,FP.none,aY,au,bf,av,partOf,unP,aa,ae,ab,bh,and_assoc,h0,h1,h10,h11,h12,h33,h34,h35,hi,x1,x2,g,hw,aU,qv,lZ]
theorem Ev (L:Lst)(run:aq)(k:Nat)(c:List (List ByteArray))(j:Nat)(p:List ByteArray)(h9:p.length≤100)(g:∀ s ∈ p,ar L run 77 [.sc (.string s)] (.sc (.bool (pB (IsV s))))):∀ (n i:Nat) (fr:List PV),i+n=p.length→CF fr c j→nth fr 33=pE p→nth fr 34=iv p.length→nth fr 35=iv i →
  ∃ fr',ca (af (CC L) run k ckI) (n+1) ⟨fr,[],[]⟩=some (bif (p.drop i).all (fun s=>pB (IsV s)) then .exit 2 else .ret,⟨fr',[],[]⟩)∧((p.drop i).all (fun s=>pB (IsV s))=true→CF fr' c j)∧((p.drop i).all (fun s=>pB (IsV s))=false→nth fr' 2=iv 1)
 | 0,i,fr,hin,h,h33,h34,h35=>by
  have e:i=p.length:=by omega
  subst e
  obtain⟨fr',q1,q2⟩:=ZT L run k fr c j p.length h h34 h35
  rw[List.drop_length]
  exact⟨fr',bz q1,fun _=>q2,nofun⟩
 | n+1,i,fr,hin,h,h33,h34,h35=>by
  have hi:i<p.length:=by omega
  obtain⟨fr1,q1,q2,q3⟩:=NF L run k fr c j p i hi h9 _ (g _ (List.getElem_mem hi)) h h33 h34 h35
  rw[List.drop_eq_getElem_cons hi,List.all_cons]
  cases hv:pB (IsV p[i]) with
  | false =>
   rw[hv] at q1 q3
   exact⟨fr1,eH q1,nofun,fun _=>q3 rfl⟩
  | true =>
   rw[hv] at q1 q2
   obtain⟨a1,a2,a3,a4⟩:=q2 rfl
   obtain⟨fr',s1,s2⟩:=Ev L run k c j p h9 g n (i+1) fr1 (by omega) a1 a2 a3 a4
   rw[Bool.true_and]
   exact⟨fr',by rw[bU q1];exact s1,s2⟩
noncomputable def adE:Code:=seq1 ckO
noncomputable def adD:Code:=seq1 (cB ckO)
noncomputable def ckB:Code:=blk (seq1 (cB (cB ckO)))
noncomputable def UD:Code:=seq1 ckB
noncomputable def xR:Code:=seq1 (cB ckB)
noncomputable def UC:Code:=seq1 (cB (cB ckB))
noncomputable def UB:Code:=cB (cB (cB ckO))
theorem UA:ckO = .seq adE (.seq adD (.seq (.block 1 (.seq UD (.seq xR (.seq UC (.block 2 (.loop ckI)))))) UB)):=rfl
theorem ZS (L:Lst)(run:aq)(k:Nat)(fr:List PV)(c:List (List ByteArray))(h:CF fr c c.length) :
  ∃ fr',af (CC L) run k ckO ⟨fr,[],[]⟩=some (.exit 0,⟨fr',[],[]⟩)∧fr'.length=44:=by
 obtain⟨h0,h1,h10,h11,h12⟩:=h
 simp only[iv] at h11 h12
 simp[ckO,ckC,Tryz.f80,aF,af,aH,an,ao,aG,ag,ai,aj,ak,aC,az,FP.none,aY,au,bf,aa,ab,h0,h11,h12]
theorem afC (L:Lst)(run:aq)(k:Nat)(fr:List PV)(c:List (List ByteArray))(j:Nat)(hj:j<c.length)(h:CF fr c j) :
  ∃ fr1 fr2,af (CC L) run k adE ⟨fr,[],[]⟩=some (.normal,⟨fr1,[],[]⟩)∧af (CC L) run k adD ⟨fr1,[],[]⟩=some (.normal,⟨fr1,[],[]⟩)∧af (CC L) run k UD ⟨fr1,[],[]⟩=some (.normal,⟨fr2,[],[]⟩)∧CF fr2 c j∧nth fr2 4=pE c[j]:=by
 obtain⟨h0,h1,h10,h11,h12⟩:=h
 obtain⟨r,x1,x2⟩:=iu uCl c j hj
 generalize c[j]=p at *
 simp only[iv] at h11 h12
 refine⟨js fr 13 (.sc (.bool true)),?_⟩
 simp[CF,iv,adE,adD,UD,ckB,blk,seq1,cB,ckO,ckC,Tryz.f80,aF,af,aH,an,ao,aG,ag,ai,aj,ak,aC,az,FP.none,aY,au,bf,partOf,aa,ae,ab,bh,and_assoc,h0,h1,h10,h11,h12,hj,x1,x2,aU,aPt,sPt]
theorem adk (m:Nat):((m:Int) == 0)=decide (m=0):=by
 by_cases h:m=0
 ·subst h;rfl
 ·rw[decide_eq_false h,beq_eq_false_iff_ne];omega
theorem gt3 (m:Nat):((m:Int) > 3)=(3<m):=by apply propext;omega
set_option maxHeartbeats 1000000 in
theorem ZU (L:Lst)(run:aq)(k:Nat)(fr:List PV)(c:List (List ByteArray))(j:Nat)(p:List ByteArray)(hc:0<c.length)(hb:p.length=0∨3<p.length∨p.length≠c[0].length)(h:CF fr c j)(h4:nth fr 4=pE p) :
  ∃ fr',af (CC L) run k xR ⟨fr,[],[]⟩=some (.ret,⟨fr',[],[]⟩)∧nth fr' 2=iv 10:=by
 obtain⟨h0,h1,h10,h11,h12⟩:=h
 obtain⟨r,x1,x2⟩:=iu uCl c 0 hc
 rw[show (((0:Nat):Int))=(0:Int) from rfl] at x1
 generalize c[0]=q at *
 have hl:=fM p
 have hl2:=fM q
 generalize p.length=m at *
 generalize q.length=m0 at *
 by_cases b1:m=0
 ·subst b1
  simp[iv,xR,ckB,blk,seq1,cB,ckO,ckC,Tryz.f80,aF,af,aH,an,ao,aG,ag,ai,aj,ak,aC,az,FP.none,aY,au,bf,av,bK,aa,ae,ab,bh,h0,h4,hl,uPt,undef]
 ·by_cases b2:3<m
  ·simp[iv,xR,ckB,blk,seq1,cB,ckO,ckC,Tryz.f80,aF,af,aH,an,ao,aG,ag,ai,aj,ak,aC,az,FP.none,aY,au,bf,av,bK,aa,ae,ab,bh,h0,h4,hl,uPt,undef,b1,b2,adk,gt3]
  ·have b3:m≠m0:=by rcases hb with hb | hb | hb <;> first | exact absurd hb b1 | exact absurd hb b2 | exact hb
   simp[iv,xR,ckB,blk,seq1,cB,ckO,ckC,Tryz.f80,aF,af,aH,an,ao,aG,ag,ai,aj,ak,aC,az,FP.none,aY,au,bf,av,bK,partOf,aa,ae,ab,bh,EI,h0,h1,h4,hl,hl2,uPt,x1,x2,aU,aPt,sPt,b1,b2,b3,adk,gt3]
set_option maxHeartbeats 1000000 in
theorem adF (L:Lst)(run:aq)(k:Nat)(fr:List PV)(c:List (List ByteArray))(j:Nat)(p:List ByteArray)(hc:0<c.length)(b1:p.length≠0)(b2 : ¬ 3<p.length)(b3:p.length=c[0].length)(h:CF fr c j)(h4:nth fr 4=pE p) :
  ∃ fr1 fr',af (CC L) run k xR ⟨fr,[],[]⟩=some (.normal,⟨fr1,[],[]⟩)∧af (CC L) run k UC ⟨fr1,[],[]⟩=some (.normal,⟨fr',[],[]⟩)∧CF fr' c j∧nth fr' 33=pE p∧nth fr' 34=iv p.length∧nth fr' 35=iv 0:=by
 obtain⟨h0,h1,h10,h11,h12⟩:=h
 obtain⟨r,x1,x2⟩:=iu uCl c 0 hc
 rw[show (((0:Nat):Int))=(0:Int) from rfl] at x1
 generalize c[0]=q at *
 have hl:=fM p
 have hl2:=fM q
 rw[← b3] at hl2
 clear b3
 generalize p.length=m at *
 obtain⟨fr1,g1,g2,g3,g4⟩:∃ fr1,af (CC L) run k xR ⟨fr,[],[]⟩=some (.normal,⟨fr1,[],[]⟩)∧CF fr1 c j∧nth fr1 4=pE p∧True:=by
  simp only[CF]
  simp[h10,h11,h12,xR,ckB,blk,seq1,cB,ckO,ckC,Tryz.f80,aF,af,aH,an,ao,aG,ag,ai,aj,ak,aC,az,FP.none,aY,au,bf,av,bK,partOf,aa,ae,ab,bh,and_assoc,h0,h1,h4,hl,hl2,uPt,x1,x2,aU,aPt,sPt,b1,b2,adk,gt3]
 obtain⟨k0,k1,k10,k11,k12⟩:=g2
 refine⟨fr1,?_⟩
 rw[g1]
 simp[CF,iv,UC,ckB,blk,seq1,cB,ckO,ckC,Tryz.f80,aF,af,aH,an,ao,aG,ag,ai,aj,ak,aC,az,FP.none,av,bK,aa,ae,ab,bh,and_assoc,k0,k1,k10,k11,k12,g3,hl,uPt]
theorem afB (L:Lst)(run:aq)(k:Nat)(fr:List PV)(c:List (List ByteArray))(j:Nat)(hj:j<1000)(h:CF fr c j) :
  ∃ fr',af (CC L) run k UB ⟨fr,[],[]⟩=some (.normal,⟨fr',[],[]⟩)∧CF fr' c (j+1):=by
 obtain⟨h0,h1,h10,h11,h12⟩:=h
 have hw:=bJ j (by omega)
 simp only[iv] at h11 h12
 simp[CF,iv,UB,cB,ckO,ckC,Tryz.f80,aF,af,aH,an,ao,aG,ag,ai,aj,ak,aC,az,FP.none,aY,au,bf,av,aa,ae,ab,h0,h1,h10,h11,h12,hw]
theorem Eu (L:Lst)(run:aq)(k:Nat)(hk:200≤k)(c:List (List ByteArray))(hF:Fit c)(g:∀ s:ByteArray,(bys s).length≤100000→ar L run 77 [.sc (.string s)] (.sc (.bool (pB (IsV s))))):∀ (n j:Nat) (fr:List PV),j+n=c.length→CF fr c j →
  (∃ fr',je (hdL c) (c.drop j)=0∧ca (af (CC L) run k ckO) (n+1) ⟨fr,[],[]⟩=some (.exit 0,⟨fr',[],[]⟩)∧fr'.length=44)∨∃ fr',je (hdL c) (c.drop j)≠0∧ca (af (CC L) run k ckO) (n+1) ⟨fr,[],[]⟩=some (.ret,⟨fr',[],[]⟩)∧nth fr' 2=iv (je (hdL c) (c.drop j))
 | 0,j,fr,hjn,h=>by
  have e:j=c.length:=by omega
  subst e
  obtain⟨fr',q1,q2⟩:=ZS L run k fr c h
  rw[List.drop_length]
  exact .inl ⟨fr',rfl,bz q1,q2⟩
 | n+1,j,fr,hjn,h=>by
  have hj:j<c.length:=by omega
  have hc:0<c.length:=by omega
  have hh:hdL c=c[0].length:=by
   cases c with
   | nil=>simp at hc
   | cons p r=>rfl
  obtain⟨fr1,fr2,a1,a2,a3,a4,a5⟩:=afC L run k fr c j hj h
  have hFp:=hF.2 c[j] (List.getElem_mem hj)
  have hFc:=hF.1
  rw[List.drop_eq_getElem_cons hj]
  have run_ret:∀ {fr'},af (CC L) run k (.seq UD (.seq xR (.seq UC (.block 2 (.loop ckI))))) ⟨fr1,[],[]⟩=some (.ret,⟨fr',[],[]⟩)→ca (af (CC L) run k ckO) (n+1+1) ⟨fr,[],[]⟩=some (.ret,⟨fr',[],[]⟩):=by
   intro fr' hr
   refine eH ?_
   rw[UA,aw a1,aw a2]
   exact cm (jM hr)
  by_cases hb:c[j].length=0∨3<c[j].length∨c[j].length≠c[0].length
  ·obtain⟨fr',b1,b2⟩:=ZU L run k fr2 c j c[j] hc hb a4 a5
   have hcp:n7 (hdL c) c[j]=10:=by unfold n7;rw[hh,if_pos hb]
   refine .inr ⟨fr',?_,run_ret ?_,?_⟩
   ·rw[je,hcp];simp
   ·rw[aw a3,cm b1]
   ·rw[je,hcp];exact b2
  ·have n1:c[j].length≠0:=fun e=>hb (.inl e)
   have n2 : ¬ 3<c[j].length:=fun e=>hb (.inr (.inl e))
   have n3:c[j].length=c[0].length:=Classical.byContradiction fun e=>hb (.inr (.inr e))
   obtain⟨fr3,fr4,b1,b2,b3,b4,b5,b6⟩:=adF L run k fr2 c j c[j] hc n1 n2 n3 a4 a5
   obtain⟨fr5,d1,d2,d3⟩:=Ev L run k c j c[j] hFp.1 (fun s hs=>g s (hFp.2 s hs)) c[j].length 0 fr4 (by omega) b3 b4 b5 b6
   rw[List.drop_zero] at d1 d2 d3
   have hcp:n7 (hdL c) c[j]=bif c[j].all (fun s=>pB (IsV s)) then 0 else 1:=by unfold n7;rw[hh,if_neg hb]
   cases hv:c[j].all (fun s=>pB (IsV s)) with
   | false =>
    rw[hv] at d1 hcp
    have d4:=d3 hv
    refine .inr ⟨fr5,?_,run_ret ?_,?_⟩
    ·rw[je,hcp];simp
    ·rw[aw a3,aw b1,aw b2]
     exact cW (bT d1 (by omega))
    ·rw[je,hcp];exact d4
   | true =>
    rw[hv] at d1 hcp
    have d4:=d2 hv
    obtain⟨fr6,e1,e2⟩:=afB L run k fr5 c j (by omega) d4
    have hgo:af (CC L) run k ckO ⟨fr,[],[]⟩=some (.normal,⟨fr6,[],[]⟩):=by
     rw[UA,aw a1,aw a2]
     have:af (CC L) run k (.seq UD (.seq xR (.seq UC (.block 2 (.loop ckI))))) ⟨fr1,[],[]⟩=some (.normal,⟨fr5,[],[]⟩):=by
      rw[aw a3,aw b1,aw b2]
      exact bF (bT d1 (by omega))
     rw[aw (fA this)]
     exact e1
    have hce:je (hdL c) (c[j]::c.drop (j+1))=je (hdL c) (c.drop (j+1)):=by rw[je,hcp];rfl
    rw[hce,bU hgo]
    exact Eu L run k hk c hF g n (j+1) fr6 (by omega) e2
noncomputable def Uz:Code:=seq1 (seq1 (ah 2 ckC))
theorem adA:ah 2 ckC = .seq (.seq Uz (.block 0 (.loop ckO))) (ah 3 ckC):=rfl
theorem ZQ (L:Lst)(run:aq)(k:Nat)(c:List (List ByteArray))(h:64<c.length):∃ st,af (CC L) run k ckC ⟨entry 44 [cE c],[],[]⟩=some (.ret,st)∧aV TT st.fr st.hp Tryz.f80.results.toList=some [iv 3]:=by
 obtain⟨e1,e2⟩:=cQ 43 (cE c)
 generalize entry 44 [cE c]=fr0 at *
 have hl:=fV c
 generalize c.length=m at *
 have h2:((m:Int) > 64)=True:=by simp;omega
 have h3:((64:Int)<m)=True:=by simp;omega
 simp[iv,ckC,Tryz.f80,e1,e2,af,aH,an,ao,aG,ag,ai,aj,ak,aC,az,FP.none,aY,au,bf,av,bK,aa,ae,ab,bh,hl,uCl,h2,aV]
theorem adC (L:Lst)(run:aq)(k:Nat)(c:List (List ByteArray))(h : ¬ 64<c.length):∃ fr fr',aX (CC L) run k 2 ckC ⟨entry 44 [cE c],[],[]⟩=some ⟨fr,[],[]⟩∧af (CC L) run k Uz ⟨fr,[],[]⟩=some (.normal,⟨fr',[],[]⟩)∧CF fr' c 0:=by
 obtain⟨e1,e2⟩:=cQ 43 (cE c)
 generalize entry 44 [cE c]=fr0 at *
 have hl:=fV c
 have h2:((c.length:Int) > 64)=False:=by simp;omega
 have h3:((64:Int)<c.length)=False:=by simp;omega
 obtain⟨fr,a1,a2,a3⟩:∃ fr,aX (CC L) run k 2 ckC ⟨fr0,[],[]⟩=some ⟨fr,[],[]⟩∧fr.length=44∧nth fr 0=cE c:=by
  simp[ckC,Tryz.f80,aX,e1,e2,af,aH,an,ao,aG,ag,ai,aj,ak,aC,az,FP.none,aY,au,bf,av,bK,aa,ae,ab,bh,hl,uCl,h2]
 refine⟨fr,?_⟩
 rw[a1]
 simp[CF,iv,Uz,seq1,ah,ckC,Tryz.f80,a2,a3,af,aH,an,ao,aG,ag,ai,aj,ak,aC,az,FP.none,av,bK,aa,ae,ab,bh,hl,uCl]
theorem ZP (L:Lst)(run:aq)(k:Nat)(fr:List PV)(h0:fr.length=44):∃ st,af (CC L) run k (ah 3 ckC) ⟨fr,[],[]⟩=some (.ret,st)∧aV TT st.fr st.hp Tryz.f80.results.toList=some [iv 0]:=by
 simp[iv,ckC,ah,Tryz.f80,h0,af,aH,an,ao,aG,ag,ai,aj,ak,aC,az,FP.none,av,aa,aV]
theorem adB (fr:List PV)(n:Nat)(h:nth fr 2=iv n):aV TT fr [] Tryz.f80.results.toList=some [iv n]:=by
 simp[Tryz.f80,aV,h]
noncomputable def HJ:List PV→Option (List PV):=ctr (fun c=>[cE c]) Fit fun c=>[iv (chk c)]
theorem ZR (L:Lst)(run:aq)(k:Nat)(hk:200≤k)(c:List (List ByteArray))(hF:Fit c)(g:∀ s:ByteArray,(bys s).length≤100000→ar L run 77 [.sc (.string s)] (.sc (.bool (pB (IsV s))))) :
  ∃ st,af (CC L) run k ckC ⟨entry 44 [cE c],[],[]⟩=some (.ret,st)∧aV TT st.fr st.hp Tryz.f80.results.toList=some [iv (chk c)]:=by
 unfold chk
 by_cases h:64<c.length
 ·rw[if_pos h];exact ZQ L run k c h
 ·rw[if_neg h]
  obtain⟨fr,fr1,a1,a2,a3⟩:=adC L run k c h
  rw[aM 2 a1,adA]
  have hl:=Eu L run k hk c hF g c.length 0 fr1 (by omega) a3
  rw[List.drop_zero] at hl
  rcases hl with ⟨fr2,h0,b1,b2⟩| ⟨fr3,b0,b1,b2⟩
  ·have:af (CC L) run k (.seq Uz (.block 0 (.loop ckO))) ⟨fr,[],[]⟩=some (.normal,⟨fr2,[],[]⟩):=by
    rw[aw a2];exact bF (bT b1 (by have:=hF.1;omega))
   rw[aw this,h0]
   exact ZP L run k fr2 b2
  ·have:af (CC L) run k (.seq Uz (.block 0 (.loop ckO))) ⟨fr,[],[]⟩=some (.ret,⟨fr3,[],[]⟩):=by
    rw[aw a2];exact cW (bT b1 (by have:=hF.1;omega))
   rw[cm this]
   exact⟨_,rfl,adB fr3 _ b2⟩
end Go.Proofs.YtjdmodeenbdfpaaGreat
