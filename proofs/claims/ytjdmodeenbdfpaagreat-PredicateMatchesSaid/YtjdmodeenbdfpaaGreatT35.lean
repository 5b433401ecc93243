/- Contracts of fractions, clouds and predicates, part 35 of the proof; each lemma states its own conditions. -/
import Derived.Test.YtjdmodeenbdfpaaGreatT34
set_option linter.unusedSimpArgs false
set_option linter.unusedVariables false
noncomputable section
namespace Go.Proofs.YtjdmodeenbdfpaaGreat
open Go Go.Ab List Tryz
attribute [local simp] FP.apart FP.free FzZ aA aF aG aH aL aM aR aU aV aY aa ab ae af ag ai aj an ao aq aw az bF bG bZ bc bd bh bj bp br cH ch cq number partOf sR undef zR
variable(L:Lst)(run:ar)(k:Nat)(fr:List PV)(hp:List Blk)(wr:List Nat)
theorem yG:base.F.get 44=some f44:=by kernel_rfl
theorem Rm:base.shared 44=false:=by kernel_rfl
theorem PL:base.F.get 54=some f54:=by kernel_rfl
theorem Y1:base.shared 54=false:=by kernel_rfl
theorem PU:base.F.get 110=some f110:=by kernel_rfl
theorem Y5:base.shared 110=false:=by kernel_rfl
theorem yF:base.F.get 133=some f133:=by kernel_rfl
theorem Rl:base.shared 133=false:=by kernel_rfl
theorem FZ:base.F.get 77=some f77:=by kernel_rfl
theorem MG:base.shared 77=false:=by kernel_rfl
theorem GN:base.shared 108=false:=by kernel_rfl
theorem Ru:base.shared 43=false:=by kernel_rfl
def LQ2:Lst:=[(95,yX),(97,ofF),(96,rP),(98,QH),(105,yS),(104,pz),(108,rrF),(43,mv)]
theorem yA:dw base.P LQ2:=⟨rM,mI,oy,Me,rj,oZ,vw,mr,trivial⟩
theorem MT(a b e1 o:Int)(s:ByteArray)(g1:au L run 95 [cl a b] (bt e1))(g2:au L run 97 [.sc (.int .i64 1)] (bt o))(g3:au L run 96 [bt e1,bt o] (Ab.bz 0))(g4:au L run 98 [bt a] (.sc (.string s))) :
  ∃ st,af (CC L) run k (f44.body.getD .skip) ⟨entry 20 [cl a b],[],[]⟩=some (.ret,st)∧aU TT st.fr st.hp f44.results.toList=some [.sc (.string s)]:=by
 obtain⟨h1,h2⟩:=cW 19 (cl a b)
 generalize entry 20 [cl a b]=fr0 at *
 unfold au at *
 simp only[whW,fz,Ab.bz] at *
 simp[f44,h1,h2,bQ,g1,g2,g3,g4,uR,sW,aW,zW,rf0,rf1]
theorem GW(a b e1 c o:Int)(s t r1 r2:ByteArray)(hc:c≠0)(h1:eD .add s { data:=#[47] } = some (.string r1))(h2:eD .add r1 t=some (.string r2))(g1:au L run 95 [cl a b] (bt e1))(g2:au L run 97 [.sc (.int .i64 1)] (bt o))(g3:au L run 96 [bt e1,bt o] (Ab.bz c))(g4:au L run 98 [bt a] (.sc (.string s)))(g5:au L run 98 [bt e1] (.sc (.string t))) :
  ∃ st,af (CC L) run k (f44.body.getD .skip) ⟨entry 20 [cl a b],[],[]⟩=some (.ret,st)∧aU TT st.fr st.hp f44.results.toList=some [.sc (.string r2)]:=by
 obtain⟨e1,e2⟩:=cW 19 (cl a b)
 generalize entry 20 [cl a b]=fr0 at *
 unfold au at *
 simp only[whW,fz,Ab.bz] at *
 have hc2:(c != 0)=true:=by simp[hc]
 simp[f44,e1,e2,bQ,g1,g2,g3,g4,g5,h1,h2,hc2,uR,sW,aW,zW,rf0,rf1]
theorem XU {L:Lst}(hL:bu L 95=fun a=>yX (aJ a))(run:ar){u:Option Rat}{j:Nat}(hu:Rb j (vv u))(h:j≤2000000):au L run 95 [rv u] (bt (vv u).den):=by
 obtain⟨b,b1,b2,b3,b4⟩:=m9 hu h
 intro dr hp
 rw[b1]
 exact bw Rz hL run dr hp _ [bt (vv u).den] (uz hp _ _) (yq _ _) (by
  rw[b1] at b3
  simp only[yX,b3,b2])
theorem aja {L:Lst}(hL:bu L 97=fun a=>ofF (aJ a))(run:ar):au L run 97 [.sc (.int .i64 1)] (bt 1):=fun dr hp =>
 bw zF hL run dr hp _ [bt 1] rfl rfl rfl
theorem ahd {L:Lst}(hL:bu L 96=fun a=>rP (aJ a))(run:ar)(x y:Int)(hx:Sm x)(hy:Sm y):au L run 96 [bt x,bt y] (Ab.bz (fO x y)):=fun dr hp =>
 bw GR hL run dr hp _ [Ab.bz (fO x y)] (gk hp x y) (fq x y) (by simp only[rP,cM hx,cM hy])
theorem XM {L:Lst}(hL:bu L 105=fun a=>yS (aJ a))(run:ar)(x y:Int)(hx:Sm x)(hy:Sm y):au L run 105 [bt x,bt y] (bt (x*y)):=fun dr hp =>
 bw Rv hL run dr hp _ [bt (x*y)] (gk hp x y) (fq x y) (by simp only[yS,cM hx,cM hy])
theorem XT {L:Lst}(hL:bu L 104=fun a=>pz (aJ a))(run:ar)(x y:Int)(hx:Sm x)(hy:Sm y)(h0:y≠0):au L run 104 [bt x,bt y] (rv (some (Rat.divInt x y))):=fun dr hp =>
 bw J5 hL run dr hp _ [rv (some (Rat.divInt x y))] (gk hp x y) (fq x y) (by
  have h:(!(y.natAbs.beq 0))=true:=by rw[qk (by omega)];rfl
  simp only[pz,cM hx,cM hy,h,cond_true,oQ,(uy x y h0).1,(uy x y h0).2])
theorem Bp {u v:Option Rat}{j:Nat}(hu:Rb j (vv u))(hv:Rb j (vv v))(h9:j≤2000000)(h:rv u=rv v):u=v:=by
 cases u with
 | none =>
  cases v with
  | none=>rfl
  | some y =>
   have h1:hZ (cl 0 0)=some (0,0):=iu (by unfold Sm;decide) (by unfold Sm;decide)
   have h2:hZ (cl y.num y.den)=some (y.num,(y.den:Int)):=iu (hv.1.sm h9) (hv.2.sm h9)
   have h3:cl 0 0=cl y.num y.den:=h
   rw[h3,h2] at h1
   simp only[OiE,PiE] at h1
   exact absurd h1.2 (IK y)
 | some x =>
  have h2:hZ (cl x.num x.den)=some (x.num,(x.den:Int)):=iu (hu.1.sm h9) (hu.2.sm h9)
  cases v with
  | none =>
   have h1:hZ (cl 0 0)=some (0,0):=iu (by unfold Sm;decide) (by unfold Sm;decide)
   have h3:cl x.num x.den=cl 0 0:=h
   rw[← h3,h2] at h1
   simp only[OiE,PiE] at h1
   exact absurd h1.2 (IK x)
  | some y =>
   have h1:hZ (cl y.num y.den)=some (y.num,(y.den:Int)):=iu (hv.1.sm h9) (hv.2.sm h9)
   have h3:cl x.num x.den=cl y.num y.den:=h
   rw[← h3,h2] at h1
   simp only[OiE,PiE] at h1
   congr 1
   exact Rat.ext h1.1 (by omega)
def rtF:List PV→Option (List PV):=ctr (fun u:Option Rat=>[rv u]) (fun u=>Rb 1000000 (vv u)) fun u=>[qt (vv u)]
theorem Zb:Ab.Spec base.P 44 rtF:=Ab.Spec.bM (C:=CC LQ2) (cP yA) fun args rs h=>by
 obtain⟨u,hu,rfl,rfl⟩:=cN h
 obtain⟨b,b1,b2,b3,b4⟩:=m9 hu (by omega)
 have gd:=XU (L:=LQ2) rfl (runK (CC LQ2) 1) hu (by omega)
 have go:=aja (L:=LQ2) rfl (runK (CC LQ2) 1)
 have gn:=XO (L:=LQ2) rfl (runK (CC LQ2) 1) (vv u).num hu.1 (by omega)
 have gt:=XO (L:=LQ2) rfl (runK (CC LQ2) 1) (vv u).den hu.2 (by omega)
 have gc:=ahd (L:=LQ2) rfl (runK (CC LQ2) 1) (vv u).den 1 (hu.2.sm (by omega)) Cf
 have hp:=(vv u).den_pos
 show ∃ k rs1 hp1 wr rs2 ids,runK (CC LQ2) k 44 [rv u] []=_∧_∧WkL rs2 [qt (vv u)]
 rw[b1] at gd ⊢
 generalize vv u=x at *
 by_cases h1:(x.den:Int)=1
 ·rw[h1] at gd gc
  obtain⟨st,x1,x2⟩:=MT LQ2 (runK (CC LQ2) 1) 1 x.num b 1 1 _ gd go gc gn
  refine⟨2,_,_,_,_,_,aP yG rfl x1 x2,rfl,?_,trivial⟩
  have:qt x = .sc (.string (tx (ztx x.num))):=by unfold qt qb qtx;rw[if_pos h1]
  rw[this]
  exact Wk.refl rfl
 ·have hc:fO x.den 1≠0:=by
   unfold fO
   rw[if_neg (by omega),if_neg h1];decide
  have l1:=hu.1.eH
  have l2:=hu.2.eH
  have hl:∀ z:Int,(ztx z).length≤Ab.eH z+1:=fun z=>by rw[gN];cases bA z <;> simp <;> omega
  have m1:=hl x.num
  have m2:=hl x.den
  obtain⟨st,x1,x2⟩:=GW LQ2 (runK (CC LQ2) 1) 1 x.num b x.den _ 1 _ _ _ _ hc (Pz (ztx x.num) [47] (by simp;omega)) (Pz (ztx x.num++[47]) (ztx x.den) (by simp;omega)) gd go gc gn gt
  refine⟨2,_,_,_,_,_,aP yG rfl x1 x2,rfl,?_,trivial⟩
  have:qt x = .sc (.string (tx (ztx x.num++[47]++ztx x.den))):=by unfold qt qb qtx;rw[if_neg h1];simp
  rw[this]
  exact Wk.refl rfl
theorem acX {L:Lst}(hL:bu L 44=fun a=>rtF (aJ a))(run:ar){u:Option Rat}{j:Nat}(hu:Rb j (vv u))(h:j≤1000000):au L run 44 [rv u] (qt (vv u)) :=
 fH Rm hL (fun x y hx hy h=>by
  have h1:rv x=rv y:=by simpa using h
  rw[Bp hx hy (by omega) h1]) run u (hu.mono h) (qJ · u) (tq u)
set_option maxHeartbeats 1000000 in
theorem MY(a b c d e1 e2 p q n m:Int)(g1:au L run 95 [cl c d] (bt e2))(g2:au L run 95 [cl a b] (bt e1))
  (g3:au L run 105 [bt a,bt e2] (bt p)) (g4:au L run 105 [bt e1,bt c] (bt q)) (g7:au L run 104 [bt p,bt q] (cl n m)) :
  ∃ st,af (CC L) run k (f54.body.getD .skip) ⟨entry 16 [cl a b,cl c d],[],[]⟩=some (.ret,st)∧aU TT st.fr st.hp f54.results.toList=some [cl n m]:=by
 obtain⟨h1,h2,h3⟩:=cn 14 (cl a b) (cl c d)
 generalize entry 16 [cl a b,cl c d]=fr0 at *
 unfold au at *
 simp only[whW,fz] at *
 simp[f54,h1,h2,h3,bQ,g1,g2,g3,g4,g7,uR,sW,aW,rf0,rf1]
abbrev UU:=Option Rat × Option Rat
def e2v (p:UU):List PV:=[rv p.1,rv p.2]
def okv (p:UU):Prop:=Rb 400000 (vv p.1)∧Rb 400000 (vv p.2)
theorem acp {p q:UU}(hp:okv p)(hq:okv q)(h:e2v p=e2v q):p=q:=by
 simp only[e2v,List.cons.injEq,and_true] at h
 exact Prod.ext (Bp hp.1 hq.1 (by omega) h.1) (Bp hp.2 hq.2 (by omega) h.2)
def J7:List PV→Option (List PV):=ctr e2v (fun p=>okv p∧vv p.2≠0) fun p=>[rv (some (vv p.1 / vv p.2))]
theorem MX:Ab.Spec base.P 54 J7:=Ab.Spec.bM (C:=CC LQ2) (cP yA) fun args rs h=>by
 obtain⟨⟨u,v⟩,⟨⟨hu,hv⟩,h0⟩,rfl,rfl⟩:=cN h
 dsimp only at hu hv h0
 obtain⟨b,b1,b2,b3,b4⟩:=m9 hu (by omega)
 obtain⟨d,d1,d2,d3,d4⟩:=m9 hv (by omega)
 have gu:=XU (L:=LQ2) rfl (runK (CC LQ2) 1) hu (by omega)
 have gv:=XU (L:=LQ2) rfl (runK (CC LQ2) 1) hv (by omega)
 have m1:=hu.1.mul hv.2
 have m2:=hu.2.mul hv.1
 have g1:=XM (L:=LQ2) rfl (runK (CC LQ2) 1) (vv u).num (vv v).den (hu.1.sm (by omega)) (hv.2.sm (by omega))
 have g2:=XM (L:=LQ2) rfl (runK (CC LQ2) 1) (vv u).den (vv v).num (hu.2.sm (by omega)) (hv.1.sm (by omega))
 have hn:((vv u).den:Int)*(vv v).num≠0:=by
  intro e
  rcases Int.mul_eq_zero.1 e with e | e
  ·exact IK _ e
  ·exact h0 (Rat.num_eq_zero.1 e)
 have g3:=XT (L:=LQ2) rfl (runK (CC LQ2) 1) ((vv u).num*(vv v).den) ((vv u).den*(vv v).num) (m1.sm (by omega)) (m2.sm (by omega)) hn
 rw[← ye] at g3
 show ∃ k rs1 hp1 wr rs2 ids,runK (CC LQ2) k 54 [rv u,rv v] []=_∧_∧WkL rs2 [rv (some (vv u / vv v))]
 rw[b1] at gu ⊢
 rw[d1] at gv ⊢
 obtain⟨st,x1,x2⟩:=MY LQ2 (runK (CC LQ2) 1) 1 _ _ _ _ _ _ _ _ _ _ gv gu g1 g2 g3
 exact⟨2,_,_,_,_,_,aP PL rfl x1 x2,rfl,Wk.refl rfl,trivial⟩
theorem ahh {L:Lst}(hL:bu L 54=fun a=>J7 (aJ a))(run:ar){u v:Option Rat}{j k:Nat}(hu:Rb j (vv u))(hv:Rb k (vv v))(hj:j≤400000)(hk:k≤400000)(h0:vv v≠0):au L run 54 [rv u,rv v] (rv (some (vv u / vv v))) :=
 fH Y1 hL (fun p q hp hq h=>by rw[acp hp.1 hq.1 h]) run (u,v) ⟨⟨hu.mono hj,hv.mono hk⟩,h0⟩ (wi · u v) (tp u v)
theorem OS(a b x y n m:Int)(g1:au L run 97 [.sc (.int .i64 a)] (bt x))(g2:au L run 97 [.sc (.int .i64 b)] (bt y))(g3:au L run 104 [bt x,bt y] (cl n m)) :
  ∃ st,af (CC L) run k (f110.body.getD .skip) ⟨entry 10 [.sc (.int .i64 a),.sc (.int .i64 b)],[],[]⟩=some (.ret,st)∧aU TT st.fr st.hp f110.results.toList=some [cl n m]:=by
 obtain⟨h1,h2,h3⟩:=cn 8 (.sc (.int .i64 a)) (.sc (.int .i64 b))
 generalize entry 10 [.sc (.int .i64 a),.sc (.int .i64 b)]=fr0 at *
 unfold au at *
 simp only[whW,fz] at *
 simp[f110,h1,h2,h3,g1,g2,g3]
def EZ:List PV→Option (List PV)
 | [.sc (.int .i64 1),.sc (.int .i64 1)]=>some [rv (some 1)]
 | [.sc (.int .i64 1),.sc (.int .i64 2)]=>some [rv (some (1 / 2))]
 | [.sc (.int .i64 2),.sc (.int .i64 1)]=>some [rv (some 2)]
 | _=>none
theorem x7 (a b:Nat)(h0:b≠0)(ha:(a:Int)=1∨(a:Int)=2)(hb:(b:Int)=1∨(b:Int)=2):∃ k rs1 hp1 wr rs2 ids,runK (CC LQ2) k 110 [.sc (.int .i64 (a:Int)),.sc (.int .i64 (b:Int))] []=some (rs1,hp1,wr)∧bq (snap hp1 bn) rs1=some (rs2,ids)∧WkL rs2 [rv (some (Rat.divInt a b))]:=by
 have go:∀ z:Int,z=1∨z=2→au LQ2 (runK (CC LQ2) 1) 97 [.sc (.int .i64 z)] (bt z):=fun z hz dr hp =>
  bw (L:=LQ2) (f:=ofF) zF rfl _ dr hp _ [bt z] rfl rfl (by rcases hz with rfl | rfl <;> rfl)
 have gv:=XT (L:=LQ2) rfl (runK (CC LQ2) 1) a b (by rcases ha with h | h <;> rw[h] <;> unfold Sm <;> decide) (by rcases hb with h | h <;> rw[h] <;> unfold Sm <;> decide) (by omega)
 obtain⟨st,x1,x2⟩:=OS LQ2 (runK (CC LQ2) 1) 1 a b a b _ _ (go _ ha) (go _ hb) gv
 exact⟨2,_,_,_,_,_,aP PU rfl x1 x2,rfl,Wk.refl rfl,trivial⟩
theorem OQ:Ab.Spec base.P 110 EZ:=Ab.Spec.bM (C:=CC LQ2) (cP yA) fun args rs h=>by
 unfold EZ at h
 split at h
 ·simp only[OiE] at h
  subst h
  exact x7 1 1 (by omega) (.inl rfl) (.inl rfl)
 ·simp only[OiE] at h
  subst h
  have e:(1 / 2:Rat)=Rat.divInt (1:Nat) (2:Nat):=by rw[ye];rfl
  rw[e]
  exact x7 1 2 (by omega) (.inl rfl) (.inr rfl)
 ·simp only[OiE] at h
  subst h
  exact x7 2 1 (by omega) (.inr rfl) (.inl rfl)
 ·cases h
theorem ahn {L:Lst}(hL:bu L 110=fun a=>EZ (aJ a))(run:ar):au L run 110 [.sc (.int .i64 1),.sc (.int .i64 1)] (rv (some 1)):=fun dr hp =>
 bw Y5 hL run dr hp _ [rv (some 1)] rfl rfl rfl
def IsV (s:ByteArray):Prop:=∃ x:Rat,s=qb x∧Rb 1000 x
def rrP (s:ByteArray):Int × Int:=@Classical.epsilon (Int × Int) ⟨(0,0)⟩ fun p=>rrF [.sc (.string s)]=some [cl p.1 p.2,.sc (.bool (pB (IsQ s)))]
theorem GZ (s:ByteArray)(h9:(bys s).length≤1000000):rrF [.sc (.string s)]=some [cl (rrP s).1 (rrP s).2,.sc (.bool (pB (IsQ s)))]∧∀ x,s=qb x→cl (rrP s).1 (rrP s).2=rv (some x):=by
 obtain⟨n,d,h1,h2,-⟩:=ahW s h9
 have h3:rrF [.sc (.string s)]=some [cl (rrP s).1 (rrP s).2,.sc (.bool (pB (IsQ s)))]:=Classical.epsilon_spec (p:=fun p:Int × Int=>rrF [.sc (.string s)]=some [cl p.1 p.2,.sc (.bool (pB (IsQ s)))]) ⟨(n,d),h1⟩
 refine⟨h3,fun x hx => ?_⟩
 rw[h1] at h3
 simp only[OiE,List.cons.injEq,and_true] at h3
 rw[← h3]
 exact h2 x hx
theorem ai8 {L:Lst}(hL:bu L 108=fun a=>rrF (aJ a))(run:ar)(s:ByteArray)(h9:(bys s).length≤1000000):au L run 108 [.sc (.string s)] (.tup [cl (rrP s).1 (rrP s).2,.sc (.bool (pB (IsQ s)))]):=fun dr hp =>
 bw GN hL run dr hp _ [cl (rrP s).1 (rrP s).2,.sc (.bool (pB (IsQ s)))] rfl rfl (GZ s h9).1
theorem Tm {x:Rat}{k:Nat}(h:Rb k x):(bys (qb x)).length≤2*k+5:=by
 rw[I3]
 unfold qtx
 have l1:=h.1.eH
 have l2:=h.2.eH
 have hl:∀ z:Int,(ztx z).length≤Ab.eH z+1:=fun z=>by rw[gN];cases bA z <;> simp <;> omega
 have m1:=hl x.num
 have m2:=hl x.den
 split
 ·omega
 ·simp;omega
theorem ai7 {L:Lst}(hL:bu L 108=fun a=>rrF (aJ a))(run:ar){x:Rat}{k:Nat}(hx:Rb k x)(hk:k≤400000):au L run 108 [qt x] (.tup [rv (some x),.sc (.bool true)]):=by
 have h9:(bys (qb x)).length≤1000000:=Nat.le_trans (Tm hx) (by omega)
 have h:=ai8 hL run (qb x) h9
 rw[(GZ (qb x) h9).2 x rfl,kz ⟨x,rfl⟩] at h
 exact h
theorem LN {L:Lst}(hL:bu L 43=fun a=>mv (aJ a))(run:ar){u:Option Rat}{j:Nat}(hu:Rb j (vv u))(h:j≤1000000):au L run 43 [rv u] (.sc (.bool (!pB (Rb 1000 (vv u))))):=fun dr hp =>
 bw Ru hL run dr hp _ [.sc (.bool (!pB (Rb 1000 (vv u))))] (qJ hp u) (tq u) (M6 hu h)
theorem Zu(s:ByteArray)(n d:Int)(g1:au L run 108 [.sc (.string s)] (.tup [cl n d,.sc (.bool false)])) :
  ∃ st,af (CC L) run k (f133.body.getD .skip) ⟨entry 18 [.sc (.string s)],[],[]⟩=some (.ret,st)∧aU TT st.fr st.hp f133.results.toList=some [cl n d,.sc (.bool false)]:=by
 obtain⟨h1,h2⟩:=cW 17 (.sc (.string s))
 generalize entry 18 [.sc (.string s)]=fr0 at *
 unfold au at *
 simp only[fz] at *
 simp[f133,h1,h2,g1]
theorem R9(s:ByteArray)(n d:Int)(lg:Bool)(g1:au L run 108 [.sc (.string s)] (.tup [cl n d,.sc (.bool true)]))(g2:au L run 43 [cl n d] (.sc (.bool lg))) :
  ∃ st,af (CC L) run k (f133.body.getD .skip) ⟨entry 18 [.sc (.string s)],[],[]⟩=some (.ret,st)∧aU TT st.fr st.hp f133.results.toList=some [cl n d,.sc (.bool (!lg))]:=by
 obtain⟨h1,h2⟩:=cW 17 (.sc (.string s))
 generalize entry 18 [.sc (.string s)]=fr0 at *
 unfold au at *
 simp only[fz] at *
 simp[f133,h1,h2,unP,g1,g2]
def ac8:List PV→Option (List PV):=ctr (fun s:ByteArray=>[.sc (.string s)]) (fun s=>(bys s).length≤100000) fun s=>[cl (rrP s).1 (rrP s).2,.sc (.bool (pB (IsV s)))]
theorem adf {x:Rat}{k:Nat}(h:(bys (qb x)).length≤k):Rb (k+1) x:=by
 have h2:=vp (bys (qb x))
 rw[lr] at h2
 dsimp only at h2
 exact⟨Jd rfl (by omega),Jd rfl (by omega)⟩
theorem Gi:Ab.Spec base.P 133 ac8:=Ab.Spec.bM (C:=CC LQ2) (cP yA) fun args rs h=>by
 obtain⟨s,h9,rfl,rfl⟩:=cN h
 have g1:=ai8 (L:=LQ2) rfl (runK (CC LQ2) 1) s (by omega)
 show ∃ k rs1 hp1 wr rs2 ids,_∧_∧WkL rs2 [cl (rrP s).1 (rrP s).2,.sc (.bool (pB (IsV s)))]
 by_cases hq:IsQ s
 ·rw[kz hq] at g1
  obtain⟨x,hx⟩:=hq
  have hb:Rb 100001 x:=adf (by rw[← hx];exact h9)
  have g2:=LN (L:=LQ2) rfl (runK (CC LQ2) 1) (u:=some x) hb (by omega)
  have e:=(GZ s (by omega)).2 x hx
  rw[← e] at g2
  obtain⟨st,x1,x2⟩:=R9 LQ2 (runK (CC LQ2) 1) 1 s _ _ _ g1 g2
  refine⟨2,_,_,_,_,_,aP yF rfl x1 x2,rfl,Wk.refl rfl,?_,trivial⟩
  have:pB (IsV s)=pB (Rb 1000 x):=by
   by_cases h1:Rb 1000 x
   ·rw[kz h1,kz ⟨x,hx,h1⟩]
   ·rw[jT h1,jT]
    rintro⟨y,hy,h2⟩
    have:=pR (hx.symm.trans hy)
    subst this
    exact h1 h2
  rw[this,Bool.not_not]
  exact Wk.refl rfl
 ·rw[jT hq] at g1
  have : ¬ IsV s:=fun ⟨x,hx,_⟩=>hq ⟨x,hx⟩
  rw[jT this]
  obtain⟨st,x1,x2⟩:=Zu LQ2 (runK (CC LQ2) 1) 1 s _ _ g1
  exact⟨2,_,_,_,_,_,aP yF rfl x1 x2,rfl,Wk.refl rfl,Wk.refl rfl,trivial⟩
def LQ3:Lst:=(133,ac8)::LQ2
theorem ag3:dw base.P LQ3:=⟨Gi,yA⟩
theorem P9(s:ByteArray)(n d:Int)(v:Bool)(g1:au L run 133 [.sc (.string s)] (.tup [cl n d,.sc (.bool v)])) :
  ∃ st,af (CC L) run k (f77.body.getD .skip) ⟨entry 11 [.sc (.string s)],[],[]⟩=some (.ret,st)∧aU TT st.fr st.hp f77.results.toList=some [.sc (.bool v)]:=by
 obtain⟨h1,h2⟩:=cW 10 (.sc (.string s))
 generalize entry 11 [.sc (.string s)]=fr0 at *
 unfold au at *
 simp only[fz] at *
 simp[f77,h1,h2,g1]
def Gf:List PV→Option (List PV):=ctr (fun s:ByteArray=>[.sc (.string s)]) (fun s=>(bys s).length≤100000) fun s=>[.sc (.bool (pB (IsV s)))]
theorem qI {s t:ByteArray}(h:[PV.sc (.string s)]=[PV.sc (.string t)]):s=t:=by simpa using h
theorem Ge:Ab.Spec base.P 77 Gf:=Ab.Spec.bM (C:=CC LQ3) (cP ag3) fun args rs h=>by
 obtain⟨s,h9,rfl,rfl⟩:=cN h
 have g1:au LQ3 (runK (CC LQ3) 1) 133 [.sc (.string s)] (.tup [cl (rrP s).1 (rrP s).2,.sc (.bool (pB (IsV s)))]) :=
  fH Rl (L:=LQ3) (e:=fun s:ByteArray=>[.sc (.string s)]) (f:=fun s=>[cl (rrP s).1 (rrP s).2,.sc (.bool (pB (IsV s)))]) (ok:=fun s=>(bys s).length≤100000) rfl (fun x y _ _ h=>by rw[qI h]) _ s h9 (fun _=>rfl) rfl
 obtain⟨st,x1,x2⟩:=P9 LQ3 (runK (CC LQ3) 1) 1 s _ _ _ g1
 exact⟨2,_,_,_,_,_,aP FZ rfl x1 x2,rfl,Wk.refl rfl,trivial⟩
theorem acW {L:Lst}(hL:bu L 77=fun a=>Gf (aJ a))(run:ar)(s:ByteArray)(h9:(bys s).length≤100000):au L run 77 [.sc (.string s)] (.sc (.bool (pB (IsV s)))) :=
 fH MG (e:=fun s:ByteArray=>[.sc (.string s)]) hL (fun x y _ _ h=>by rw[qI h]) run s h9 (fun _=>rfl) rfl
def LQ4:Lst:=[(48,j7),(64,isF)]
theorem ag2:dw base.P LQ4:=⟨nO,abJ,trivial⟩
theorem MQ(s:ByteArray)(lg v:Bool)(g1:au L run 48 [.sc (.string s)] (.sc (.bool lg)))(g2:au L run 64 [.sc (.string s)] (.sc (.bool v))) :
  ∃ st,af (CC L) run k (f23.body.getD .skip) ⟨entry 10 [.sc (.string s)],[],[]⟩=some (.ret,st)∧aU TT st.fr st.hp f23.results.toList=some [.sc (.bool (!lg && v))]:=by
 obtain⟨h1,h2⟩:=cW 9 (.sc (.string s))
 generalize entry 10 [.sc (.string s)]=fr0 at *
 unfold au at *
 cases lg <;> simp[f23,h1,h2,unP,g1,g2]
theorem IH (z:Int):fi (ztx z)=Ab.eH z:=by
 have h3:ztx z=(bif bA z then [45] else [])++dtx z.natAbs:=se z
 rw[h3]
 unfold Ab.eH
 have hd:=ox z.natAbs
 cases bA z with
 | true=>rfl
 | false =>
  rw[cond_false,nil_append]
  cases e:dtx z.natAbs with
  | nil=>rfl
  | cons a l =>
   rw[e] at hd
   have ha:=dN.1 (fN hd mem_cons_self)
   show (bif a.beq 45 then l.length else (a::l).length)=_
   rw[qk (show a≠45 by omega)];rfl
theorem EB (z:Int):decide (1000<fi (ztx z)) = !pB (Nb 1000 z):=by
 rw[IH]
 unfold Ab.eH
 have h:=tk (n:=z.natAbs) (k:=1000) (by omega)
 by_cases hn:Nb 1000 z
 ·rw[kz hn,decide_eq_false (by have:=h.2 hn;omega)];rfl
 ·rw[jT hn,decide_eq_true (by
   have : ¬ (dtx z.natAbs).length≤1000:=fun e=>hn (h.1 e)
   omega)];rfl
theorem ED (x:Rat):uC (bys (qb x)) = !pB (Rb 1000 x):=by
 unfold uC
 rw[lr,EB,EB]
 by_cases h1:Nb 1000 x.num
 ·by_cases h2:Nb 1000 x.den
  ·rw[kz h1,kz h2,kz (show Rb 1000 x from ⟨h1,h2⟩)];rfl
  ·rw[kz h1,jT h2,jT (show ¬ Rb 1000 x from fun e=>h2 e.2)];rfl
 ·rw[jT h1,jT (show ¬ Rb 1000 x from fun e=>h1 e.1)];simp
def RQ:List PV→Option (List PV):=ctr (fun s:ByteArray=>[.sc (.string s)]) (fun s=>(bys s).length≤100000) fun s=>[.sc (.bool (pB (IsV s)))]
theorem MP:Ab.Spec base.P 23 RQ:=Ab.Spec.bM (C:=CC LQ4) (cP ag2) fun args rs h=>by
 obtain⟨s,h9,rfl,rfl⟩:=cN h
 have g1:au LQ4 (runK (CC LQ4) 1) 48 [.sc (.string s)] (.sc (.bool (uC (bys s)))):=fun dr hp =>
  bw (L:=LQ4) (f:=j7) zC rfl _ dr hp _ [.sc (.bool (uC (bys s)))] rfl rfl (by
   have:(bys s).length.blt 20000000=true:=by rw[Nat.blt_eq];omega
   simp only[j7,this,cond_true])
 have g2:au LQ4 (runK (CC LQ4) 1) 64 [.sc (.string s)] (.sc (.bool (pB (IsQ s)))) :=
  fH YR (L:=LQ4) (e:=fun s:ByteArray=>[.sc (.string s)]) (ok:=fun s=>(bys s).length<1000000) (f:=fun s=>[.sc (.bool (pB (IsQ s)))]) rfl (fun x y _ _ h=>by rw[qI h]) _ s (show (bys s).length<1000000 by omega) (fun _=>rfl) rfl
 obtain⟨st,x1,x2⟩:=MQ LQ4 (runK (CC LQ4) 1) 1 s _ _ g1 g2
 refine⟨2,_,_,_,_,_,aP Ci rfl x1 x2,rfl,?_,trivial⟩
 have:pB (IsV s)=(!uC (bys s) && pB (IsQ s)):=by
  by_cases hq:IsQ s
  ·obtain⟨x,hx⟩:=hq
   subst hx
   rw[ED,Bool.not_not,kz (show IsQ (qb x) from ⟨x,rfl⟩),Bool.and_true]
   by_cases h1:Rb 1000 x
   ·rw[kz h1,kz ⟨x,rfl,h1⟩]
   ·rw[jT h1,jT]
    rintro⟨y,hy,h2⟩
    have:=pR hy
    subst this
    exact h1 h2
  ·rw[jT hq,Bool.and_false,jT fun ⟨x,hx,_⟩=>hq ⟨x,hx⟩]
 rw[this]
 exact Wk.refl rfl
theorem ahf {L:Lst}(hL:bu L 23=fun a=>RQ (aJ a))(run:ar)(s:ByteArray)(h9:(bys s).length≤100000):au L run 23 [.sc (.string s)] (.sc (.bool (pB (IsV s)))) :=
 fH Gz (e:=fun s:ByteArray=>[.sc (.string s)]) hL (fun x y _ _ h=>by rw[qI h]) run s h9 (fun _=>rfl) rfl
def es (s:ByteArray):List PV:=[.sc (.string s)]
theorem IA:Ec 1 es where
 len:=fun _=>rfl
 okc:=fun _=>rfl
 can:=fun _=>rfl
 idf:=fun _=>rfl
 sn:=fun _ _ _=>rfl
def pE (p:List ByteArray):PV:=fg es p
def ep (p:List ByteArray):List PV:=[pE p]
theorem VT:Ec 1 ep:=IA.list
def cE (c:List (List ByteArray)):PV:=fg ep c
theorem uPt:und TT 39=some (.slice 27):=by kernel_rfl
theorem uCl:und TT 23=some (.slice 39):=by kernel_rfl
theorem uRs:und TT 38=some (.slice 27):=by kernel_rfl
theorem iQ:dt TT 27=some 1:=by kernel_rfl
theorem uM:fZ TT 27=some false:=by kernel_rfl
theorem sPt:dt TT 39=some 1:=by kernel_rfl
theorem sCl:dt TT 23=some 1:=by kernel_rfl
theorem aCl:fZ TT 23=some false:=by kernel_rfl
theorem aPt:fZ TT 39=some false:=by kernel_rfl
theorem fY (p:List ByteArray):dn (pE p)=some p.length:=rfl
theorem gD (c:List (List ByteArray)):dn (cE c)=some c.length:=rfl
theorem rS (c:List (List ByteArray)):(cE c).cells?=some [cE c]:=rfl
theorem Fs (p:List ByteArray):canon (pE p)=pE p:=IA.B8 p
theorem fV (c:List (List ByteArray)):canon (cE c)=cE c:=VT.B8 c
theorem EJ {t:Nat}(hu:und TT t=some (.slice 27))(p:List ByteArray)(i:Nat)(hi:i<p.length):∃ r,bg TT t (pE p) (.sc (.int .i64 (i:Int)))=some (.iptr r)∧r.head?=some (.sc (.string p[i])):=by
 have h:=lh IA.toEl p i hi
 refine⟨br (p.flatMap es) (i*1),?_,by rw[h];rfl⟩
 unfold pE fg
 simp only[bg,hu,bm,iQ,hi,if_true]
theorem gi {t:Nat}(hu:und TT t=some (.slice 39))(c:List (List ByteArray))(i:Nat)(hi:i<c.length):∃ r,bg TT t (cE c) (.sc (.int .i64 (i:Int)))=some (.iptr r)∧r.head?=some (pE c[i]):=by
 have h:=lh VT.toEl c i hi
 refine⟨br (c.flatMap ep) (i*1),?_,by rw[h];rfl⟩
 unfold cE fg
 simp only[bg,hu,bm,sPt,hi,if_true]
theorem HU:∀ {p q:List ByteArray},pE p=pE q→p=q
 | p,q,h=>by
  unfold pE fg at h
  simp only[PV.imm.injEq,true_and] at h
  have:∀ (p q:List ByteArray),p.flatMap es=q.flatMap es→p=q:=by
   intro p
   induction p with
   | nil=>intro q h;cases q with
    | nil=>rfl
    | cons a q=>simp[es] at h
   | cons a p ih=>intro q h;cases q with
    | nil=>simp[es] at h
    | cons b q =>
     simp only[flatMap_cons,es,cons_append,nil_append,List.cons.injEq,PV.sc.injEq,Value.string.injEq] at h
     rw[h.1,ih q h.2]
  exact this p q h.2
theorem Ca {c d:List (List ByteArray)}(h:cE c=cE d):c=d:=by
 unfold cE fg at h
 simp only[PV.imm.injEq,true_and] at h
 have:∀ (p q:List (List ByteArray)),p.flatMap ep=q.flatMap ep→p=q:=by
  intro p
  induction p with
  | nil=>intro q h;cases q with
   | nil=>rfl
   | cons a q=>simp[ep] at h
  | cons a p ih=>intro q h;cases q with
   | nil=>simp[ep] at h
   | cons b q =>
    simp only[flatMap_cons,ep,cons_append,nil_append,List.cons.injEq] at h
    rw[HU h.1,ih q h.2]
 exact this c d h.2
def rQ (m:Nat)(p:List ByteArray):Nat:=if p.length=0∨3<p.length∨p.length≠m then 10 else bif p.all (fun s=>pB (IsV s)) then 0 else 1
def j9 (m:Nat):List (List ByteArray)→Nat
 | []=>0
 | p::r=>if rQ m p=0 then j9 m r else rQ m p
def hdL (c:List (List ByteArray)):Nat:=match c with
 | []=>0
 | p::_=>p.length
def chk (c:List (List ByteArray)):Nat:=if 64<c.length then 3 else j9 (hdL c) c
def Fit (c:List (List ByteArray)):Prop:=c.length≤100∧∀ p ∈ c,p.length≤100∧∀ s ∈ p,(bys s).length≤100000
theorem F9:base.F.get 80=some f80:=by kernel_rfl
theorem MM:base.shared 80=false:=by kernel_rfl
def ckC:Code:=f80.body.getD .skip
def ckO:Code:=(aC ckC).getD .skip
def ckI:Code:=(aC ckO).getD .skip
def CF (fr:List PV)(c:List (List ByteArray))(j:Nat):Prop:=fr.length=44∧nth fr 0=cE c∧nth fr 10=cE c∧nth fr 11=iv c.length∧nth fr 12=iv j
theorem acI(c:List (List ByteArray))(j:Nat)(n:Nat)(h:CF fr c j)(h34:nth fr 34=iv n)(h35:nth fr 35=iv n) :
  ∃ fr',af (CC L) run k ckI ⟨fr,[],[]⟩=some (.exit 2,⟨fr',[],[]⟩)∧CF fr' c j:=by
 obtain⟨h0,h1,h10,h11,h12⟩:=h
 simp only[iv] at h34 h35 h11 h12
 simp[CF,iv,ckI,ckO,ckC,f80,aC,h0,h1,h10,h11,h12,h34,h35]
theorem O7(c:List (List ByteArray))(j:Nat)(p:List ByteArray)(i:Nat)(hi:i<p.length)(h9:p.length≤100)(v:Bool)(g:au L run 77 [.sc (.string p[i])] (.sc (.bool v)))(h:CF fr c j)(h33:nth fr 33=pE p)(h34:nth fr 34=iv p.length)(h35:nth fr 35=iv i) :
  ∃ fr',af (CC L) run k ckI ⟨fr,[],[]⟩=some (bif v then .normal else .ret,⟨fr',[],[]⟩)∧(v=true→CF fr' c j∧nth fr' 33=pE p∧nth fr' 34=iv p.length∧nth fr' 35=iv (i+1))∧(v=false→nth fr' 2=iv 1):=by
 obtain⟨h0,h1,h10,h11,h12⟩:=h
 obtain⟨r,x1,x2⟩:=EJ uPt p i hi
 have hw:=bH i (by omega)
 unfold au at g
 generalize p[i]=s at *
 simp only[iv] at h34 h35 h11 h12
 cases v <;> simp[CF,iv,ckI,ckO,ckC,f80,aC,unP,and_assoc,h0,h1,h10,h11,h12,h33,h34,h35,hi,x1,x2,g,hw,uM,iQ]
theorem Fm (L:Lst)(run:ar)(k:Nat)(c:List (List ByteArray))(j:Nat)(p:List ByteArray)(h9:p.length≤100)(g:∀ s ∈ p,au L run 77 [.sc (.string s)] (.sc (.bool (pB (IsV s))))):∀ (n i:Nat) (fr:List PV),i+n=p.length→CF fr c j→nth fr 33=pE p→nth fr 34=iv p.length→nth fr 35=iv i →
  ∃ fr',cu (af (CC L) run k ckI) (n+1) ⟨fr,[],[]⟩=some (bif (p.drop i).all (fun s=>pB (IsV s)) then .exit 2 else .ret,⟨fr',[],[]⟩)∧((p.drop i).all (fun s=>pB (IsV s))=true→CF fr' c j)∧((p.drop i).all (fun s=>pB (IsV s))=false→nth fr' 2=iv 1)
 | 0,i,fr,hin,h,h33,h34,h35=>by
  have e:i=p.length:=by omega
  subst e
  obtain⟨fr',q1,q2⟩:=acI L run k fr c j p.length h h34 h35
  rw[drop_length]
  exact⟨fr',bD q1,fun _=>q2,nofun⟩
 | n+1,i,fr,hin,h,h33,h34,h35=>by
  have hi:i<p.length:=by omega
  obtain⟨fr1,q1,q2,q3⟩:=O7 L run k fr c j p i hi h9 _ (g _ (getElem_mem hi)) h h33 h34 h35
  rw[drop_eq_getElem_cons hi,all_cons]
  cases hv:pB (IsV p[i]) with
  | false =>
   rw[hv] at q1 q3
   exact⟨fr1,eM q1,nofun,fun _=>q3 rfl⟩
  | true =>
   rw[hv] at q1 q2
   obtain⟨a1,a2,a3,a4⟩:=q2 rfl
   obtain⟨fr',s1,s2⟩:=Fm L run k c j p h9 g n (i+1) fr1 (by omega) a1 a2 a3 a4
   rw[Bool.true_and]
   exact⟨fr',by rw[ct q1];exact s1,s2⟩
end Go.Proofs.YtjdmodeenbdfpaaGreat
end
