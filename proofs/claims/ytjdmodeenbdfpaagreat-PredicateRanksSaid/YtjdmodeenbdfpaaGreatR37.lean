/- Contracts of fractions, clouds and predicates, part 37 of the proof; each lemma states its own conditions. -/
import Derived.Test.YtjdmodeenbdfpaaGreatR36
set_option linter.unusedSimpArgs false
set_option linter.unusedVariables false
namespace Go.Proofs.YtjdmodeenbdfpaaGreat
open Go Go.Ab
theorem xg:base.F.get 44=some Tryz.f44:=by kernel_rfl
theorem NH:base.F.get 54=some Tryz.f54:=by kernel_rfl
theorem VW:base.shared 54=false:=by kernel_rfl
theorem NP:base.F.get 110=some Tryz.f110:=by kernel_rfl
theorem V1:base.shared 110=false:=by kernel_rfl
theorem xf:base.F.get 133=some Tryz.f133:=by kernel_rfl
theorem OE:base.shared 133=false:=by kernel_rfl
theorem Ee:base.F.get 77=some Tryz.f77:=by kernel_rfl
theorem J4:base.shared 77=false:=by kernel_rfl
theorem EU:base.shared 108=false:=by kernel_rfl
theorem OG:base.shared 43=false:=by kernel_rfl
noncomputable def LQ2:Lst:=[(95,xx),(97,ofF),(96,qo),(98,Oc),(105,xr),(104,oB),(108,rrF),(43,lL)]
theorem xa:dL base.P LQ2:=⟨qk,lV,nB,JH,pU,n6,tK,lK,trivial⟩
theorem KC (L:Lst)(run:ar)(k:Nat)(a b e1 o:Int)(s:ByteArray)(g1:aA L run 95 [cb a b] (bq e1))(g2:aA L run 97 [.sc (.int .i64 1)] (bq o))(g3:aA L run 96 [bq e1,bq o] (Ab.bJ 0))(g4:aA L run 98 [bq a] (.sc (.string s))) :
  ∃ st,af (CC L) run k (Tryz.f44.body.getD .skip) ⟨entry 20 [cb a b],[],[]⟩=some (.ret,st)∧aZ TT st.fr st.hp Tryz.f44.results.toList=some [.sc (.string s)]:=by
 obtain⟨h1,h2⟩:=cW 19 (cb a b)
 generalize entry 20 [cb a b]=fr0 at *
 unfold aA at *
 simp only[whW,fg,Ab.bJ] at *
 simp[Tryz.f44,h1,h2,af,aJ,ao,aq,aH,ag,ai,aQ,aj,an,aF,aC,FP.none,bd,au,bj,aw,bL,partOf,aa,ae,ab,bh,bn,bX,bC,bg,g1,g2,g3,g4,uR,sR,sW,aR,aW,zW,rf0,rf1,aO,aU,aV,bO,cj,bG,br,aZ,number,FP.free,cF,FP.apart,undef]
theorem E6 (L:Lst)(run:ar)(k:Nat)(a b e1 c o:Int)(s t r1 r2:ByteArray)(hc:c≠0)(h1:fl .add s { data:=#[47] } = some (.string r1))(h2:fl .add r1 t=some (.string r2))(g1:aA L run 95 [cb a b] (bq e1))(g2:aA L run 97 [.sc (.int .i64 1)] (bq o))(g3:aA L run 96 [bq e1,bq o] (Ab.bJ c))(g4:aA L run 98 [bq a] (.sc (.string s)))(g5:aA L run 98 [bq e1] (.sc (.string t))) :
  ∃ st,af (CC L) run k (Tryz.f44.body.getD .skip) ⟨entry 20 [cb a b],[],[]⟩=some (.ret,st)∧aZ TT st.fr st.hp Tryz.f44.results.toList=some [.sc (.string r2)]:=by
 obtain⟨e1,e2⟩:=cW 19 (cb a b)
 generalize entry 20 [cb a b]=fr0 at *
 unfold aA at *
 simp only[whW,fg,Ab.bJ] at *
 have hc2:(c != 0)=true:=by simp[hc]
 simp[Tryz.f44,e1,e2,af,aJ,ao,aq,aH,ag,ai,aQ,aj,an,aF,aC,FP.none,bd,au,bj,aw,bL,partOf,aa,ae,ab,bh,bn,bX,bC,bg,g1,g2,g3,g4,g5,h1,h2,hc2,uR,sR,sW,aR,aW,zW,rf0,rf1,aO,aU,aV,bO,cj,bG,br,aZ,number,FP.free,cF,FP.apart,undef]
theorem U0 {L:Lst}(hL:bw L 95=fun a=>xx (aK a))(run:ar){u:Option Rat}{j:Nat}(hu:Rb j (vv u))(h:j≤2000000):aA L run 95 [rv u] (bq (vv u).den):=by
 obtain⟨b,b1,b2,b3,b4⟩:=mq hu h
 intro dr hp
 rw[b1]
 exact bu OL hL run dr hp _ [bq (vv u).den] (sY hp _ _) (wR _ _) (by
  rw[b1] at b3
  simp only[xx,b3,b2])
theorem afE {L:Lst}(hL:bw L 97=fun a=>ofF (aK a))(run:ar):aA L run 97 [.sc (.int .i64 1)] (bq 1):=fun dr hp =>
 bu xX hL run dr hp _ [bq 1] rfl rfl rfl
theorem aed {L:Lst}(hL:bw L 96=fun a=>qo (aK a))(run:ar)(x y:Int)(hx:Sm x)(hy:Sm y):aA L run 96 [bq x,bq y] (Ab.bJ (fF x y)):=fun dr hp =>
 bu EX hL run dr hp _ [Ab.bJ (fF x y)] (fK hp x y) (eY x y) (by simp only[qo,cJ hx,cJ hy])
theorem US {L:Lst}(hL:bw L 105=fun a=>xr (aK a))(run:ar)(x y:Int)(hx:Sm x)(hy:Sm y):aA L run 105 [bq x,bq y] (bq (x*y)):=fun dr hp =>
 bu OH hL run dr hp _ [bq (x*y)] (fK hp x y) (eY x y) (by simp only[xr,cJ hx,cJ hy])
theorem UZ {L:Lst}(hL:bw L 104=fun a=>oB (aK a))(run:ar)(x y:Int)(hx:Sm x)(hy:Sm y)(h0:y≠0):aA L run 104 [bq x,bq y] (rv (some (Rat.divInt x y))):=fun dr hp =>
 bu Ip hL run dr hp _ [rv (some (Rat.divInt x y))] (fK hp x y) (eY x y) (by
  have h:(!(y.natAbs.beq 0))=true:=by rw[o9 (by omega)];rfl
  simp only[oB,cJ hx,cJ hy,h,cond_true,nS,(sX x y h0).1,(sX x y h0).2])
theorem E5 {u v:Option Rat}{j:Nat}(hu:Rb j (vv u))(hv:Rb j (vv v))(h9:j≤2000000)(h:rv u=rv v):u=v:=by
 cases u with
 | none =>
  cases v with
  | none=>rfl
  | some y =>
   have h1:gF (cb 0 0)=some (0,0):=gV (by unfold Sm;decide) (by unfold Sm;decide)
   have h2:gF (cb y.num y.den)=some (y.num,(y.den:Int)):=gV (hv.1.sm h9) (hv.2.sm h9)
   have h3:cb 0 0=cb y.num y.den:=h
   rw[h3,h2] at h1
   simp only[Option.some.injEq,Prod.mk.injEq] at h1
   exact absurd h1.2 (G9 y)
 | some x =>
  have h2:gF (cb x.num x.den)=some (x.num,(x.den:Int)):=gV (hu.1.sm h9) (hu.2.sm h9)
  cases v with
  | none =>
   have h1:gF (cb 0 0)=some (0,0):=gV (by unfold Sm;decide) (by unfold Sm;decide)
   have h3:cb x.num x.den=cb 0 0:=h
   rw[← h3,h2] at h1
   simp only[Option.some.injEq,Prod.mk.injEq] at h1
   exact absurd h1.2 (G9 x)
  | some y =>
   have h1:gF (cb y.num y.den)=some (y.num,(y.den:Int)):=gV (hv.1.sm h9) (hv.2.sm h9)
   have h3:cb x.num x.den=cb y.num y.den:=h
   rw[← h3,h2] at h1
   simp only[Option.some.injEq,Prod.mk.injEq] at h1
   congr 1
   exact Rat.ext h1.1 (by omega)
noncomputable def rtF:List PV→Option (List PV):=ctr (fun u:Option Rat=>[rv u]) (fun u=>Rb 1000000 (vv u)) fun u=>[qt (vv u)]
theorem V8:Ab.Spec base.P 44 rtF:=Ab.Spec.bQ (C:=CC LQ2) (cV xa) fun args rs h=>by
 obtain⟨u,hu,rfl,rfl⟩:=dz h
 obtain⟨b,b1,b2,b3,b4⟩:=mq hu (by omega)
 have gd:=U0 (L:=LQ2) rfl (runK (CC LQ2) 1) hu (by omega)
 have go:=afE (L:=LQ2) rfl (runK (CC LQ2) 1)
 have gn:=UT (L:=LQ2) rfl (runK (CC LQ2) 1) (vv u).num hu.1 (by omega)
 have gt:=UT (L:=LQ2) rfl (runK (CC LQ2) 1) (vv u).den hu.2 (by omega)
 have gc:=aed (L:=LQ2) rfl (runK (CC LQ2) 1) (vv u).den 1 (hu.2.sm (by omega)) AR
 have hp:=(vv u).den_pos
 show ∃ k rs1 hp1 wr rs2 ids,runK (CC LQ2) k 44 [rv u] []=_∧_∧WkL rs2 [qt (vv u)]
 rw[b1] at gd ⊢
 generalize vv u=x at *
 by_cases h1:(x.den:Int)=1
 ·rw[h1] at gd gc
  obtain⟨st,x1,x2⟩:=KC LQ2 (runK (CC LQ2) 1) 1 x.num b 1 1 _ gd go gc gn
  refine⟨2,_,_,_,_,_,aX xg rfl x1 x2,rfl,?_,trivial⟩
  have:qt x = .sc (.string (tx (ztx x.num))):=by unfold qt qb qtx;rw[if_pos h1]
  rw[this]
  exact Wk.refl rfl
 ·have hc:fF x.den 1≠0:=by
   unfold fF
   rw[if_neg (by omega),if_neg h1];decide
  have l1:=hu.1.eh
  have l2:=hu.2.eh
  have hl:∀ z:Int,(ztx z).length≤Ab.eh z+1:=fun z=>by rw[fZ];cases bx z <;> simp <;> omega
  have m1:=hl x.num
  have m2:=hl x.den
  obtain⟨st,x1,x2⟩:=E6 LQ2 (runK (CC LQ2) 1) 1 x.num b x.den _ 1 _ _ _ _ hc (Nx (ztx x.num) [47] (by simp;omega)) (Nx (ztx x.num++[47]) (ztx x.den) (by simp;omega)) gd go gc gn gt
  refine⟨2,_,_,_,_,_,aX xg rfl x1 x2,rfl,?_,trivial⟩
  have:qt x = .sc (.string (tx (ztx x.num++[47]++ztx x.den))):=by unfold qt qb qtx;rw[if_neg h1];simp
  rw[this]
  exact Wk.refl rfl
set_option maxHeartbeats 1000000 in
theorem KH (L:Lst)(run:ar)(k:Nat)(a b c d e1 e2 p q n m:Int)(g1:aA L run 95 [cb c d] (bq e2))(g2:aA L run 95 [cb a b] (bq e1))
  (g3:aA L run 105 [bq a,bq e2] (bq p)) (g4:aA L run 105 [bq e1,bq c] (bq q)) (g7:aA L run 104 [bq p,bq q] (cb n m)) :
  ∃ st,af (CC L) run k (Tryz.f54.body.getD .skip) ⟨entry 16 [cb a b,cb c d],[],[]⟩=some (.ret,st)∧aZ TT st.fr st.hp Tryz.f54.results.toList=some [cb n m]:=by
 obtain⟨h1,h2,h3⟩:=cC 14 (cb a b) (cb c d)
 generalize entry 16 [cb a b,cb c d]=fr0 at *
 unfold aA at *
 simp only[whW,fg] at *
 simp[Tryz.f54,h1,h2,h3,af,aJ,ao,aq,aH,ag,ai,aQ,aj,an,aF,aC,FP.none,bL,partOf,aa,ae,ab,bh,bn,bX,bC,bg,g1,g2,g3,g4,g7,uR,sR,sW,aR,aW,zR,rf0,rf1,aO,aU,aV,bO,cj,bG,br,aZ,number,FP.free,cF,FP.apart]
abbrev UU:=Option Rat × Option Rat
def e2v (p:UU):List PV:=[rv p.1,rv p.2]
def okv (p:UU):Prop:=Rb 400000 (vv p.1)∧Rb 400000 (vv p.2)
theorem ZD {p q:UU}(hp:okv p)(hq:okv q)(h:e2v p=e2v q):p=q:=by
 simp only[e2v,List.cons.injEq,and_true] at h
 exact Prod.ext (E5 hp.1 hq.1 (by omega) h.1) (E5 hp.2 hq.2 (by omega) h.2)
noncomputable def Ir:List PV→Option (List PV):=ctr e2v (fun p=>okv p∧vv p.2≠0) fun p=>[rv (some (vv p.1 / vv p.2))]
theorem KG:Ab.Spec base.P 54 Ir:=Ab.Spec.bQ (C:=CC LQ2) (cV xa) fun args rs h=>by
 obtain⟨⟨u,v⟩,⟨⟨hu,hv⟩,h0⟩,rfl,rfl⟩:=dz h
 dsimp only at hu hv h0
 obtain⟨b,b1,b2,b3,b4⟩:=mq hu (by omega)
 obtain⟨d,d1,d2,d3,d4⟩:=mq hv (by omega)
 have gu:=U0 (L:=LQ2) rfl (runK (CC LQ2) 1) hu (by omega)
 have gv:=U0 (L:=LQ2) rfl (runK (CC LQ2) 1) hv (by omega)
 have m1:=hu.1.mul hv.2
 have m2:=hu.2.mul hv.1
 have g1:=US (L:=LQ2) rfl (runK (CC LQ2) 1) (vv u).num (vv v).den (hu.1.sm (by omega)) (hv.2.sm (by omega))
 have g2:=US (L:=LQ2) rfl (runK (CC LQ2) 1) (vv u).den (vv v).num (hu.2.sm (by omega)) (hv.1.sm (by omega))
 have hn:((vv u).den:Int)*(vv v).num≠0:=by
  intro e
  rcases Int.mul_eq_zero.1 e with e | e
  ·exact G9 _ e
  ·exact h0 (Rat.num_eq_zero.1 e)
 have g3:=UZ (L:=LQ2) rfl (runK (CC LQ2) 1) ((vv u).num*(vv v).den) ((vv u).den*(vv v).num) (m1.sm (by omega)) (m2.sm (by omega)) hn
 rw[← wF] at g3
 show ∃ k rs1 hp1 wr rs2 ids,runK (CC LQ2) k 54 [rv u,rv v] []=_∧_∧WkL rs2 [rv (some (vv u / vv v))]
 rw[b1] at gu ⊢
 rw[d1] at gv ⊢
 obtain⟨st,x1,x2⟩:=KH LQ2 (runK (CC LQ2) 1) 1 _ _ _ _ _ _ _ _ _ _ gv gu g1 g2 g3
 exact⟨2,_,_,_,_,_,aX NH rfl x1 x2,rfl,Wk.refl rfl,trivial⟩
theorem aeg {L:Lst}(hL:bw L 54=fun a=>Ir (aK a))(run:ar){u v:Option Rat}{j k:Nat}(hu:Rb j (vv u))(hv:Rb k (vv v))(hj:j≤400000)(hk:k≤400000)(h0:vv v≠0):aA L run 54 [rv u,rv v] (rv (some (vv u / vv v))) :=
 jZ VW hL (fun p q hp hq h=>by rw[ZD hp.1 hq.1 h]) run (u,v) ⟨⟨hu.mono hj,hv.mono hk⟩,h0⟩ (uv · u v) (rO u v)
theorem MN (L:Lst)(run:ar)(k:Nat)(a b x y n m:Int)(g1:aA L run 97 [.sc (.int .i64 a)] (bq x))(g2:aA L run 97 [.sc (.int .i64 b)] (bq y))(g3:aA L run 104 [bq x,bq y] (cb n m)) :
  ∃ st,af (CC L) run k (Tryz.f110.body.getD .skip) ⟨entry 10 [.sc (.int .i64 a),.sc (.int .i64 b)],[],[]⟩=some (.ret,st)∧aZ TT st.fr st.hp Tryz.f110.results.toList=some [cb n m]:=by
 obtain⟨h1,h2,h3⟩:=cC 8 (.sc (.int .i64 a)) (.sc (.int .i64 b))
 generalize entry 10 [.sc (.int .i64 a),.sc (.int .i64 b)]=fr0 at *
 unfold aA at *
 simp only[whW,fg] at *
 simp[Tryz.f110,h1,h2,h3,af,aJ,ao,aq,aH,ag,ai,aQ,aj,an,aF,aC,FP.none,partOf,aa,ae,ab,bh,bn,bX,bC,bg,g1,g2,g3,sR,aR,zR,aO,aU,aV,bO,cj,bG,br,aZ,number,FP.free]
def Dh:List PV→Option (List PV)
 | [.sc (.int .i64 1),.sc (.int .i64 1)]=>some [rv (some 1)]
 | [.sc (.int .i64 1),.sc (.int .i64 2)]=>some [rv (some (1 / 2))]
 | [.sc (.int .i64 2),.sc (.int .i64 1)]=>some [rv (some 2)]
 | _=>none
theorem wx (a b:Nat)(h0:b≠0)(ha:(a:Int)=1∨(a:Int)=2)(hb:(b:Int)=1∨(b:Int)=2):∃ k rs1 hp1 wr rs2 ids,runK (CC LQ2) k 110 [.sc (.int .i64 (a:Int)),.sc (.int .i64 (b:Int))] []=some (rs1,hp1,wr)∧bt (snap hp1 bp) rs1=some (rs2,ids)∧WkL rs2 [rv (some (Rat.divInt a b))]:=by
 have go:∀ z:Int,z=1∨z=2→aA LQ2 (runK (CC LQ2) 1) 97 [.sc (.int .i64 z)] (bq z):=fun z hz dr hp =>
  bu (L:=LQ2) (f:=ofF) xX rfl _ dr hp _ [bq z] rfl rfl (by rcases hz with rfl | rfl <;> rfl)
 have gv:=UZ (L:=LQ2) rfl (runK (CC LQ2) 1) a b (by rcases ha with h | h <;> rw[h] <;> unfold Sm <;> decide) (by rcases hb with h | h <;> rw[h] <;> unfold Sm <;> decide) (by omega)
 obtain⟨st,x1,x2⟩:=MN LQ2 (runK (CC LQ2) 1) 1 a b a b _ _ (go _ ha) (go _ hb) gv
 exact⟨2,_,_,_,_,_,aX NP rfl x1 x2,rfl,Wk.refl rfl,trivial⟩
theorem MM:Ab.Spec base.P 110 Dh:=Ab.Spec.bQ (C:=CC LQ2) (cV xa) fun args rs h=>by
 unfold Dh at h
 split at h
 ·simp only[Option.some.injEq] at h
  subst h
  exact wx 1 1 (by omega) (.inl rfl) (.inl rfl)
 ·simp only[Option.some.injEq] at h
  subst h
  have e:(1 / 2:Rat)=Rat.divInt (1:Nat) (2:Nat):=by rw[wF];rfl
  rw[e]
  exact wx 1 2 (by omega) (.inl rfl) (.inr rfl)
 ·simp only[Option.some.injEq] at h
  subst h
  exact wx 2 1 (by omega) (.inr rfl) (.inl rfl)
 ·cases h
theorem aek {L:Lst}(hL:bw L 110=fun a=>Dh (aK a))(run:ar):aA L run 110 [.sc (.int .i64 1),.sc (.int .i64 1)] (rv (some 1)):=fun dr hp =>
 bu V1 hL run dr hp _ [rv (some 1)] rfl rfl rfl
def IsV (s:ByteArray):Prop:=∃ x:Rat,s=qb x∧Rb 1000 x
noncomputable def rrP (s:ByteArray):Int × Int:=@Classical.epsilon (Int × Int) ⟨(0,0)⟩ fun p=>rrF [.sc (.string s)]=some [cb p.1 p.2,.sc (.bool (pB (IsQ s)))]
theorem E9 (s:ByteArray)(h9:(bys s).length≤1000000):rrF [.sc (.string s)]=some [cb (rrP s).1 (rrP s).2,.sc (.bool (pB (IsQ s)))]∧∀ x,s=qb x→cb (rrP s).1 (rrP s).2=rv (some x):=by
 obtain⟨n,d,h1,h2,-⟩:=aeD s h9
 have h3:rrF [.sc (.string s)]=some [cb (rrP s).1 (rrP s).2,.sc (.bool (pB (IsQ s)))]:=Classical.epsilon_spec (p:=fun p:Int × Int=>rrF [.sc (.string s)]=some [cb p.1 p.2,.sc (.bool (pB (IsQ s)))]) ⟨(n,d),h1⟩
 refine⟨h3,fun x hx => ?_⟩
 rw[h1] at h3
 simp only[Option.some.injEq,List.cons.injEq,and_true] at h3
 rw[← h3]
 exact h2 x hx
theorem afD {L:Lst}(hL:bw L 108=fun a=>rrF (aK a))(run:ar)(s:ByteArray)(h9:(bys s).length≤1000000):aA L run 108 [.sc (.string s)] (.tup [cb (rrP s).1 (rrP s).2,.sc (.bool (pB (IsQ s)))]):=fun dr hp =>
 bu EU hL run dr hp _ [cb (rrP s).1 (rrP s).2,.sc (.bool (pB (IsQ s)))] rfl rfl (E9 s h9).1
theorem abt {x:Rat}{k:Nat}(h:Rb k x):(bys (qb x)).length≤2*k+5:=by
 rw[Uz]
 unfold qtx
 have l1:=h.1.eh
 have l2:=h.2.eh
 have hl:∀ z:Int,(ztx z).length≤Ab.eh z+1:=fun z=>by rw[fZ];cases bx z <;> simp <;> omega
 have m1:=hl x.num
 have m2:=hl x.den
 split
 ·omega
 ·simp;omega
theorem afC {L:Lst}(hL:bw L 108=fun a=>rrF (aK a))(run:ar){x:Rat}{k:Nat}(hx:Rb k x)(hk:k≤400000):aA L run 108 [qt x] (.tup [rv (some x),.sc (.bool true)]):=by
 have h9:(bys (qb x)).length≤1000000:=Nat.le_trans (abt hx) (by omega)
 have h:=afD hL run (qb x) h9
 rw[(E9 (qb x) h9).2 x rfl,j0 ⟨x,rfl⟩] at h
 exact h
theorem aae {L:Lst}(hL:bw L 43=fun a=>lL (aK a))(run:ar){u:Option Rat}{j:Nat}(hu:Rb j (vv u))(h:j≤1000000):aA L run 43 [rv u] (.sc (.bool (!pB (Rb 1000 (vv u))))):=fun dr hp =>
 bu OG hL run dr hp _ [.sc (.bool (!pB (Rb 1000 (vv u))))] (uw hp u) (zk u) (KL hu h)
theorem Ww (L:Lst)(run:ar)(k:Nat)(s:ByteArray)(n d:Int)(g1:aA L run 108 [.sc (.string s)] (.tup [cb n d,.sc (.bool false)])) :
  ∃ st,af (CC L) run k (Tryz.f133.body.getD .skip) ⟨entry 18 [.sc (.string s)],[],[]⟩=some (.ret,st)∧aZ TT st.fr st.hp Tryz.f133.results.toList=some [cb n d,.sc (.bool false)]:=by
 obtain⟨h1,h2⟩:=cW 17 (.sc (.string s))
 generalize entry 18 [.sc (.string s)]=fr0 at *
 unfold aA at *
 simp only[fg] at *
 simp[Tryz.f133,h1,h2,af,aJ,ao,aq,aH,ag,ai,aQ,aj,an,aF,aC,FP.none,aw,partOf,aa,ae,ab,bh,bn,bX,bC,bg,g1,sR,aR,zR,aO,aU,aV,bO,cj,bG,br,aZ,number,FP.free,cF,FP.apart,undef]
theorem Pl (L:Lst)(run:ar)(k:Nat)(s:ByteArray)(n d:Int)(lg:Bool)(g1:aA L run 108 [.sc (.string s)] (.tup [cb n d,.sc (.bool true)]))(g2:aA L run 43 [cb n d] (.sc (.bool lg))) :
  ∃ st,af (CC L) run k (Tryz.f133.body.getD .skip) ⟨entry 18 [.sc (.string s)],[],[]⟩=some (.ret,st)∧aZ TT st.fr st.hp Tryz.f133.results.toList=some [cb n d,.sc (.bool (!lg))]:=by
 obtain⟨h1,h2⟩:=cW 17 (.sc (.string s))
 generalize entry 18 [.sc (.string s)]=fr0 at *
 unfold aA at *
 simp only[fg] at *
 simp[Tryz.f133,h1,h2,af,aJ,ao,aq,aH,ag,ai,aQ,aj,an,aF,aC,FP.none,aw,partOf,unP,aa,ae,ab,bh,bn,bX,bC,bg,g1,g2,sR,aR,zR,aO,aU,aV,bO,cj,bG,br,aZ,number,FP.free,cF,FP.apart,undef]
noncomputable def aan:List PV→Option (List PV):=ctr (fun s:ByteArray=>[.sc (.string s)]) (fun s=>(bys s).length≤100000) fun s=>[cb (rrP s).1 (rrP s).2,.sc (.bool (pB (IsV s)))]
theorem aau {x:Rat}{k:Nat}(h:(bys (qb x)).length≤k):Rb (k+1) x:=by
 have h2:=tE (bys (qb x))
 rw[ky] at h2
 dsimp only at h2
 exact⟨Hx rfl (by omega),Hx rfl (by omega)⟩
theorem Ey:Ab.Spec base.P 133 aan:=Ab.Spec.bQ (C:=CC LQ2) (cV xa) fun args rs h=>by
 obtain⟨s,h9,rfl,rfl⟩:=dz h
 have g1:=afD (L:=LQ2) rfl (runK (CC LQ2) 1) s (by omega)
 show ∃ k rs1 hp1 wr rs2 ids,_∧_∧WkL rs2 [cb (rrP s).1 (rrP s).2,.sc (.bool (pB (IsV s)))]
 by_cases hq:IsQ s
 ·rw[j0 hq] at g1
  obtain⟨x,hx⟩:=hq
  have hb:Rb 100001 x:=aau (by rw[← hx];exact h9)
  have g2:=aae (L:=LQ2) rfl (runK (CC LQ2) 1) (u:=some x) hb (by omega)
  have e:=(E9 s (by omega)).2 x hx
  rw[← e] at g2
  obtain⟨st,x1,x2⟩:=Pl LQ2 (runK (CC LQ2) 1) 1 s _ _ _ g1 g2
  refine⟨2,_,_,_,_,_,aX xf rfl x1 x2,rfl,Wk.refl rfl,?_,trivial⟩
  have:pB (IsV s)=pB (Rb 1000 x):=by
   by_cases h1:Rb 1000 x
   ·rw[j0 h1,j0 ⟨x,hx,h1⟩]
   ·rw[jw h1,jw]
    rintro⟨y,hy,h2⟩
    have:=vy (hx.symm.trans hy)
    subst this
    exact h1 h2
  rw[this,Bool.not_not]
  exact Wk.refl rfl
 ·rw[jw hq] at g1
  have : ¬ IsV s:=fun ⟨x,hx,_⟩=>hq ⟨x,hx⟩
  rw[jw this]
  obtain⟨st,x1,x2⟩:=Ww LQ2 (runK (CC LQ2) 1) 1 s _ _ g1
  exact⟨2,_,_,_,_,_,aX xf rfl x1 x2,rfl,Wk.refl rfl,Wk.refl rfl,trivial⟩
noncomputable def LQ3:Lst:=(133,aan)::LQ2
theorem ad5:dL base.P LQ3:=⟨Ey,xa⟩
theorem N5 (L:Lst)(run:ar)(k:Nat)(s:ByteArray)(n d:Int)(v:Bool)(g1:aA L run 133 [.sc (.string s)] (.tup [cb n d,.sc (.bool v)])) :
  ∃ st,af (CC L) run k (Tryz.f77.body.getD .skip) ⟨entry 11 [.sc (.string s)],[],[]⟩=some (.ret,st)∧aZ TT st.fr st.hp Tryz.f77.results.toList=some [.sc (.bool v)]:=by
 obtain⟨h1,h2⟩:=cW 10 (.sc (.string s))
 generalize entry 11 [.sc (.string s)]=fr0 at *
 unfold aA at *
 simp only[fg] at *
 simp[Tryz.f77,h1,h2,af,aJ,ao,aq,aH,ag,ai,aQ,aj,an,aF,aC,FP.none,aw,aa,ae,ab,bh,bn,bX,bC,bg,g1,sR,zR,aO,aV,bO,cj,aZ,undef]
noncomputable def Es:List PV→Option (List PV):=ctr (fun s:ByteArray=>[.sc (.string s)]) (fun s=>(bys s).length≤100000) fun s=>[.sc (.bool (pB (IsV s)))]
theorem pt {s t:ByteArray}(h:[PV.sc (.string s)]=[PV.sc (.string t)]):s=t:=by simpa using h
theorem Er:Ab.Spec base.P 77 Es:=Ab.Spec.bQ (C:=CC LQ3) (cV ad5) fun args rs h=>by
 obtain⟨s,h9,rfl,rfl⟩:=dz h
 have g1:aA LQ3 (runK (CC LQ3) 1) 133 [.sc (.string s)] (.tup [cb (rrP s).1 (rrP s).2,.sc (.bool (pB (IsV s)))]) :=
  jZ OE (L:=LQ3) (e:=fun s:ByteArray=>[.sc (.string s)]) (f:=fun s=>[cb (rrP s).1 (rrP s).2,.sc (.bool (pB (IsV s)))]) (ok:=fun s=>(bys s).length≤100000) rfl (fun x y _ _ h=>by rw[pt h]) _ s h9 (fun _=>rfl) rfl
 obtain⟨st,x1,x2⟩:=N5 LQ3 (runK (CC LQ3) 1) 1 s _ _ _ g1
 exact⟨2,_,_,_,_,_,aX Ee rfl x1 x2,rfl,Wk.refl rfl,trivial⟩
theorem aac {L:Lst}(hL:bw L 77=fun a=>Es (aK a))(run:ar)(s:ByteArray)(h9:(bys s).length≤100000):aA L run 77 [.sc (.string s)] (.sc (.bool (pB (IsV s)))) :=
 jZ J4 (e:=fun s:ByteArray=>[.sc (.string s)]) hL (fun x y _ _ h=>by rw[pt h]) run s h9 (fun _=>rfl) rfl
noncomputable def LQ4:Lst:=[(48,nY),(64,isF)]
theorem ad4:dL base.P LQ4:=⟨sx,Y3,trivial⟩
theorem Kz (L:Lst)(run:ar)(k:Nat)(s:ByteArray)(lg v:Bool)(g1:aA L run 48 [.sc (.string s)] (.sc (.bool lg)))(g2:aA L run 64 [.sc (.string s)] (.sc (.bool v))) :
  ∃ st,af (CC L) run k (Tryz.f23.body.getD .skip) ⟨entry 10 [.sc (.string s)],[],[]⟩=some (.ret,st)∧aZ TT st.fr st.hp Tryz.f23.results.toList=some [.sc (.bool (!lg && v))]:=by
 obtain⟨h1,h2⟩:=cW 9 (.sc (.string s))
 generalize entry 10 [.sc (.string s)]=fr0 at *
 unfold aA at *
 cases lg <;> simp[Tryz.f23,h1,h2,af,aJ,ao,aq,aH,ag,ai,aQ,aj,an,aF,aC,FP.none,aw,unP,aa,ae,ab,g1,g2,aZ,undef]
theorem G6 (z:Int):eM (ztx z)=Ab.eh z:=by
 have h3:ztx z=(bif bx z then [45] else [])++dtx z.natAbs:=ub z
 rw[h3]
 unfold Ab.eh
 have hd:=qi z.natAbs
 cases bx z with
 | true=>rfl
 | false =>
  rw[cond_false,List.nil_append]
  cases e:dtx z.natAbs with
  | nil=>rfl
  | cons a l =>
   rw[e] at hd
   have ha:=dH.1 (fJ hd List.mem_cons_self)
   show (bif a.beq 45 then l.length else (a::l).length)=_
   rw[o9 (show a≠45 by omega)];rfl
theorem CU (z:Int):decide (1000<eM (ztx z)) = !pB (Nb 1000 z):=by
 rw[G6]
 unfold Ab.eh
 have h:=rL (n:=z.natAbs) (k:=1000) (by omega)
 by_cases hn:Nb 1000 z
 ·rw[j0 hn,decide_eq_false (by have:=h.2 hn;omega)];rfl
 ·rw[jw hn,decide_eq_true (by
   have : ¬ (dtx z.natAbs).length≤1000:=fun e=>hn (h.1 e)
   omega)];rfl
theorem Sy (x:Rat):yO (bys (qb x)) = !pB (Rb 1000 x):=by
 unfold yO
 rw[ky,CU,CU]
 by_cases h1:Nb 1000 x.num
 ·by_cases h2:Nb 1000 x.den
  ·rw[j0 h1,j0 h2,j0 (show Rb 1000 x from ⟨h1,h2⟩)];rfl
  ·rw[j0 h1,jw h2,jw (show ¬ Rb 1000 x from fun e=>h2 e.2)];rfl
 ·rw[jw h1,jw (show ¬ Rb 1000 x from fun e=>h1 e.1)];simp
noncomputable def O2:List PV→Option (List PV):=ctr (fun s:ByteArray=>[.sc (.string s)]) (fun s=>(bys s).length≤100000) fun s=>[.sc (.bool (pB (IsV s)))]
theorem Ky:Ab.Spec base.P 23 O2:=Ab.Spec.bQ (C:=CC LQ4) (cV ad4) fun args rs h=>by
 obtain⟨s,h9,rfl,rfl⟩:=dz h
 have g1:aA LQ4 (runK (CC LQ4) 1) 48 [.sc (.string s)] (.sc (.bool (yO (bys s)))):=fun dr hp =>
  bu (L:=LQ4) (f:=nY) J0 rfl _ dr hp _ [.sc (.bool (yO (bys s)))] rfl rfl (by
   have:(bys s).length.blt 20000000=true:=by rw[Nat.blt_eq];omega
   simp only[nY,this,cond_true])
 have g2:aA LQ4 (runK (CC LQ4) 1) 64 [.sc (.string s)] (.sc (.bool (pB (IsQ s)))) :=
  jZ VN (L:=LQ4) (e:=fun s:ByteArray=>[.sc (.string s)]) (ok:=fun s=>(bys s).length<1000000) (f:=fun s=>[.sc (.bool (pB (IsQ s)))]) rfl (fun x y _ _ h=>by rw[pt h]) _ s (show (bys s).length<1000000 by omega) (fun _=>rfl) rfl
 obtain⟨st,x1,x2⟩:=Kz LQ4 (runK (CC LQ4) 1) 1 s _ _ g1 g2
 refine⟨2,_,_,_,_,_,aX AV rfl x1 x2,rfl,?_,trivial⟩
 have:pB (IsV s)=(!yO (bys s) && pB (IsQ s)):=by
  by_cases hq:IsQ s
  ·obtain⟨x,hx⟩:=hq
   subst hx
   rw[Sy,Bool.not_not,j0 (show IsQ (qb x) from ⟨x,rfl⟩),Bool.and_true]
   by_cases h1:Rb 1000 x
   ·rw[j0 h1,j0 ⟨x,rfl,h1⟩]
   ·rw[jw h1,jw]
    rintro⟨y,hy,h2⟩
    have:=vy hy
    subst this
    exact h1 h2
  ·rw[jw hq,Bool.and_false,jw fun ⟨x,hx,_⟩=>hq ⟨x,hx⟩]
 rw[this]
 exact Wk.refl rfl
theorem aee {L:Lst}(hL:bw L 23=fun a=>O2 (aK a))(run:ar)(s:ByteArray)(h9:(bys s).length≤100000):aA L run 23 [.sc (.string s)] (.sc (.bool (pB (IsV s)))) :=
 jZ EO (e:=fun s:ByteArray=>[.sc (.string s)]) hL (fun x y _ _ h=>by rw[pt h]) run s h9 (fun _=>rfl) rfl
def es (s:ByteArray):List PV:=[.sc (.string s)]
theorem adr:Ec 1 es where
 len:=fun _=>rfl
 okc:=fun _=>rfl
 can:=fun _=>rfl
 idf:=fun _=>rfl
 sn:=fun _ _ _=>rfl
def pE (p:List ByteArray):PV:=gU es p
def ep (p:List ByteArray):List PV:=[pE p]
theorem ads:Ec 1 ep:=adr.list
def cE (c:List (List ByteArray)):PV:=gU ep c
theorem uPt:und TT 39=some (.slice 27):=by kernel_rfl
theorem uCl:und TT 23=some (.slice 39):=by kernel_rfl
theorem uRs:und TT 38=some (.slice 27):=by kernel_rfl
theorem xZ:dc TT 27=some 1:=by kernel_rfl
theorem DS:fR TT 27=some false:=by kernel_rfl
theorem sPt:dc TT 39=some 1:=by kernel_rfl
theorem sCl:dc TT 23=some 1:=by kernel_rfl
theorem aCl:fR TT 23=some false:=by kernel_rfl
theorem aPt:fR TT 39=some false:=by kernel_rfl
theorem fQ (p:List ByteArray):ef (pE p)=some p.length:=rfl
theorem iz (c:List (List ByteArray)):ef (cE c)=some c.length:=rfl
theorem qw (c:List (List ByteArray)):(cE c).cells?=some [cE c]:=rfl
theorem DC (p:List ByteArray):canon (pE p)=pE p:=adr.Hf p
theorem nC (c:List (List ByteArray)):canon (cE c)=cE c:=ads.Hf c
theorem IX {t:Nat}(hu:und TT t=some (.slice 27))(p:List ByteArray)(i:Nat)(hi:i<p.length):∃ r,bc TT t (pE p) (.sc (.int .i64 (i:Int)))=some (.iptr r)∧r.head?=some (.sc (.string p[i])):=by
 have h:=oc adr.toEl p i hi
 refine⟨br (p.flatMap es) (i*1),?_,by rw[h];rfl⟩
 unfold pE gU
 simp only[bc,hu,bm,xZ,hi,if_true]
theorem jP {t:Nat}(hu:und TT t=some (.slice 39))(c:List (List ByteArray))(i:Nat)(hi:i<c.length):∃ r,bc TT t (cE c) (.sc (.int .i64 (i:Int)))=some (.iptr r)∧r.head?=some (pE c[i]):=by
 have h:=oc ads.toEl c i hi
 refine⟨br (c.flatMap ep) (i*1),?_,by rw[h];rfl⟩
 unfold cE gU
 simp only[bc,hu,bm,sPt,hi,if_true]
theorem Gh:∀ {p q:List ByteArray},pE p=pE q→p=q
 | p,q,h=>by
  unfold pE gU at h
  simp only[PV.imm.injEq,true_and] at h
  have:∀ (p q:List ByteArray),p.flatMap es=q.flatMap es→p=q:=by
   intro p
   induction p with
   | nil=>intro q h;cases q with
    | nil=>rfl
    | cons a q=>simp[es] at h
   | cons a p ih=>intro q h;cases q with
    | nil=>simp[es] at h
    | cons b q =>
     simp only[List.flatMap_cons,es,List.cons_append,List.nil_append,List.cons.injEq,PV.sc.injEq,Value.string.injEq] at h
     rw[h.1,ih q h.2]
  exact this p q h.2
theorem AM {c d:List (List ByteArray)}(h:cE c=cE d):c=d:=by
 unfold cE gU at h
 simp only[PV.imm.injEq,true_and] at h
 have:∀ (p q:List (List ByteArray)),p.flatMap ep=q.flatMap ep→p=q:=by
  intro p
  induction p with
  | nil=>intro q h;cases q with
   | nil=>rfl
   | cons a q=>simp[ep] at h
  | cons a p ih=>intro q h;cases q with
   | nil=>simp[ep] at h
   | cons b q =>
    simp only[List.flatMap_cons,ep,List.cons_append,List.nil_append,List.cons.injEq] at h
    rw[Gh h.1,ih q h.2]
 exact this c d h.2
noncomputable def qp (m:Nat)(p:List ByteArray):Nat:=if p.length=0∨3<p.length∨p.length≠m then 10 else bif p.all (fun s=>pB (IsV s)) then 0 else 1
noncomputable def jx (m:Nat):List (List ByteArray)→Nat
 | []=>0
 | p::r=>if qp m p=0 then jx m r else qp m p
def hdL (c:List (List ByteArray)):Nat:=match c with
 | []=>0
 | p::_=>p.length
noncomputable def chk (c:List (List ByteArray)):Nat:=if 64<c.length then 3 else jx (hdL c) c
def Fit (c:List (List ByteArray)):Prop:=c.length≤100∧∀ p ∈ c,p.length≤100∧∀ s ∈ p,(bys s).length≤100000
theorem Ek:base.F.get 80=some Tryz.f80:=by kernel_rfl
theorem Kq:base.shared 80=false:=by kernel_rfl
noncomputable def ckC:Code:=Tryz.f80.body.getD .skip
noncomputable def ckO:Code:=(az ckC).getD .skip
noncomputable def ckI:Code:=(az ckO).getD .skip
def CF (fr:List PV)(c:List (List ByteArray))(j:Nat):Prop:=fr.length=44∧nth fr 0=cE c∧nth fr 10=cE c∧nth fr 11=iv c.length∧nth fr 12=iv j
theorem ZX (L:Lst)(run:ar)(k:Nat)(fr:List PV)(c:List (List ByteArray))(j:Nat)(n:Nat)(h:CF fr c j)(h34:nth fr 34=iv n)(h35:nth fr 35=iv n) :
  ∃ fr',af (CC L) run k ckI ⟨fr,[],[]⟩=some (.exit 2,⟨fr',[],[]⟩)∧CF fr' c j:=by
 obtain⟨h0,h1,h10,h11,h12⟩:=h
 simp only[iv] at h34 h35 h11 h12
 simp[CF,iv,ckI,ckO,ckC,Tryz.f80,az,af,aJ,ao,aq,aH,ag,ai,aj,an,aF,aC,FP.none,bd,au,bj,aa,ae,ab,h0,h1,h10,h11,h12,h34,h35]
theorem M4 (L:Lst)(run:ar)(k:Nat)(fr:List PV)(c:List (List ByteArray))(j:Nat)(p:List ByteArray)(i:Nat)(hi:i<p.length)(h9:p.length≤100)(v:Bool)(g:aA L run 77 [.sc (.string p[i])] (.sc (.bool v)))(h:CF fr c j)(h33:nth fr 33=pE p)(h34:nth fr 34=iv p.length)(h35:nth fr 35=iv i) :
  ∃ fr',af (CC L) run k ckI ⟨fr,[],[]⟩=some (bif v then .normal else .ret,⟨fr',[],[]⟩)∧(v=true→CF fr' c j∧nth fr' 33=pE p∧nth fr' 34=iv p.length∧nth fr' 35=iv (i+1))∧(v=false→nth fr' 2=iv 1):=by
 obtain⟨h0,h1,h10,h11,h12⟩:=h
 obtain⟨r,x1,x2⟩:=IX uPt p i hi
 have hw:=bE i (by omega)
 unfold aA at g
 generalize p[i]=s at *
 simp only[iv] at h34 h35 h11 h12
 cases v <;> simp[CF,iv,ckI,ckO,ckC,Tryz.f80,az,af,aJ,ao,aq,aH,ag,ai,aQ,aj,an,aF,aC,FP.none,bd,au,bj,aw,partOf,unP,aa,ae,ab,bh,and_assoc,h0,h1,h10,h11,h12,h33,h34,h35,hi,x1,x2,g,hw,aU,DS,xZ]
theorem Dz (L:Lst)(run:ar)(k:Nat)(c:List (List ByteArray))(j:Nat)(p:List ByteArray)(h9:p.length≤100)(g:∀ s ∈ p,aA L run 77 [.sc (.string s)] (.sc (.bool (pB (IsV s))))):∀ (n i:Nat) (fr:List PV),i+n=p.length→CF fr c j→nth fr 33=pE p→nth fr 34=iv p.length→nth fr 35=iv i →
  ∃ fr',cl (af (CC L) run k ckI) (n+1) ⟨fr,[],[]⟩=some (bif (p.drop i).all (fun s=>pB (IsV s)) then .exit 2 else .ret,⟨fr',[],[]⟩)∧((p.drop i).all (fun s=>pB (IsV s))=true→CF fr' c j)∧((p.drop i).all (fun s=>pB (IsV s))=false→nth fr' 2=iv 1)
 | 0,i,fr,hin,h,h33,h34,h35=>by
  have e:i=p.length:=by omega
  subst e
  obtain⟨fr',q1,q2⟩:=ZX L run k fr c j p.length h h34 h35
  rw[List.drop_length]
  exact⟨fr',bD q1,fun _=>q2,nofun⟩
 | n+1,i,fr,hin,h,h33,h34,h35=>by
  have hi:i<p.length:=by omega
  obtain⟨fr1,q1,q2,q3⟩:=M4 L run k fr c j p i hi h9 _ (g _ (List.getElem_mem hi)) h h33 h34 h35
  rw[List.drop_eq_getElem_cons hi,List.all_cons]
  cases hv:pB (IsV p[i]) with
  | false =>
   rw[hv] at q1 q3
   exact⟨fr1,eF q1,nofun,fun _=>q3 rfl⟩
  | true =>
   rw[hv] at q1 q2
   obtain⟨a1,a2,a3,a4⟩:=q2 rfl
   obtain⟨fr',s1,s2⟩:=Dz L run k c j p h9 g n (i+1) fr1 (by omega) a1 a2 a3 a4
   rw[Bool.true_and]
   exact⟨fr',by rw[ch q1];exact s1,s2⟩
end Go.Proofs.YtjdmodeenbdfpaaGreat
