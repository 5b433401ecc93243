/- Contracts of fractions, clouds and predicates, part 39 of the proof; each lemma states its own conditions. -/
import Derived.Test.YtjdmodeenbdfpaaGreatP38
set_option linter.unusedSimpArgs false
set_option linter.unusedVariables false
namespace Go.Proofs.YtjdmodeenbdfpaaGreat
open Go Go.Ab
theorem xg:base.F.get 44=some Tryz.f44:=by kernel_rfl
theorem OM:base.shared 44=false:=by kernel_rfl
theorem NW:base.F.get 110=some Tryz.f110:=by kernel_rfl
theorem VW:base.shared 110=false:=by kernel_rfl
theorem xf:base.F.get 133=some Tryz.f133:=by kernel_rfl
theorem OL:base.shared 133=false:=by kernel_rfl
theorem ED:base.F.get 77=some Tryz.f77:=by kernel_rfl
theorem KK:base.shared 77=false:=by kernel_rfl
theorem Fk:base.shared 108=false:=by kernel_rfl
theorem ON:base.shared 43=false:=by kernel_rfl
noncomputable def LQ2:Lst:=[(95,A1),(97,ofF),(96,rl),(98,Oc),(105,GJ),(104,pt),(108,rrF),(43,mf)]
theorem Bc:dK base.P LQ2:=⟨wK,nk,pQ,JZ,vM,qU,Af,od,trivial⟩
theorem KV (L:Lst)(run:aq)(k:Nat)(a b e1 o:Int)(s:ByteArray)(g1:av L run 95 [bT a b] (bk e1))(g2:av L run 97 [.sc (.int .i64 1)] (bk o))(g3:av L run 96 [bk e1,bk o] (Ab.bC 0))(g4:av L run 98 [bk a] (.sc (.string s))) :
  ∃ st,af (CC L) run k (Tryz.f44.body.getD .skip) ⟨entry 20 [bT a b],[],[]⟩=some (.ret,st)∧aZ TT st.fr st.hp Tryz.f44.results.toList=some [.sc (.string s)]:=by
 obtain⟨h1,h2⟩:=cP 19 (bT a b)
 generalize entry 20 [bT a b]=fr0 at *
 unfold av at *
 simp only[whW,fv,Ab.bC] at *
 simp[Tryz.f44,h1,h2,af,aH,an,ao,aG,ag,ai,aP,aj,ak,aC,az,FP.none,bc,ar,bd,au,bG,partOf,aa,ae,ab,bf,bg,bO,bx,aX,g1,g2,g3,g4,uR,sR,sW,aR,aW,zW,rf0,rf1,aM,aU,aV,bP,bZ,bA,bn,aZ,number,FP.free,cB,FP.apart,undef]
theorem Fv (L:Lst)(run:aq)(k:Nat)(a b e1 c o:Int)(s t r1 r2:ByteArray)(hc:c≠0)(h1:eY .add s { data:=#[47] } = some (.string r1))(h2:eY .add r1 t=some (.string r2))(g1:av L run 95 [bT a b] (bk e1))(g2:av L run 97 [.sc (.int .i64 1)] (bk o))(g3:av L run 96 [bk e1,bk o] (Ab.bC c))(g4:av L run 98 [bk a] (.sc (.string s)))(g5:av L run 98 [bk e1] (.sc (.string t))) :
  ∃ st,af (CC L) run k (Tryz.f44.body.getD .skip) ⟨entry 20 [bT a b],[],[]⟩=some (.ret,st)∧aZ TT st.fr st.hp Tryz.f44.results.toList=some [.sc (.string r2)]:=by
 obtain⟨e1,e2⟩:=cP 19 (bT a b)
 generalize entry 20 [bT a b]=fr0 at *
 unfold av at *
 simp only[whW,fv,Ab.bC] at *
 have hc2:(c != 0)=true:=by simp[hc]
 simp[Tryz.f44,e1,e2,af,aH,an,ao,aG,ag,ai,aP,aj,ak,aC,az,FP.none,bc,ar,bd,au,bG,partOf,aa,ae,ab,bf,bg,bO,bx,aX,g1,g2,g3,g4,g5,h1,h2,hc2,uR,sR,sW,aR,aW,zW,rf0,rf1,aM,aU,aV,bP,bZ,bA,bn,aZ,number,FP.free,cB,FP.apart,undef]
theorem aeU {L:Lst}(hL:bt L 95=fun a=>A1 (aJ a))(run:aq){u:Option Rat}{j:Nat}(hu:Rb j (vv u))(h:j≤2000000):av L run 95 [rv u] (bk (vv u).den):=by
 obtain⟨b,b1,b2,b3,b4⟩:=nS hu h
 intro dr hp
 rw[b1]
 exact bp OS hL run dr hp _ [bk (vv u).den] (sC hp _ _) (wT _ _) (by
  rw[b1] at b3
  simp only[A1,b3,b2])
theorem aeT {L:Lst}(hL:bt L 97=fun a=>ofF (aJ a))(run:aq):av L run 97 [.sc (.int .i64 1)] (bk 1):=fun dr hp =>
 bp x6 hL run dr hp _ [bk 1] rfl rfl rfl
theorem adb {L:Lst}(hL:bt L 96=fun a=>rl (aJ a))(run:aq)(x y:Int)(hx:Sm x)(hy:Sm y):av L run 96 [bk x,bk y] (Ab.bC (fE x y)):=fun dr hp =>
 bp Fo hL run dr hp _ [Ab.bC (fE x y)] (gj hp x y) (fg x y) (by simp only[rl,cC hx,cC hy])
theorem adi {L:Lst}(hL:bt L 104=fun a=>pt (aJ a))(run:aq)(x y:Int)(hx:Sm x)(hy:Sm y)(h0:y≠0):av L run 104 [bk x,bk y] (rv (some (Rat.divInt x y))):=fun dr hp =>
 bp Iz hL run dr hp _ [rv (some (Rat.divInt x y))] (gj hp x y) (fg x y) (by
  have h:(!(y.natAbs.beq 0))=true:=by rw[oH (by omega)];rfl
  simp only[pt,cC hx,cC hy,h,cond_true,m9,(sA x y h0).1,(sA x y h0).2])
theorem Pf {u v:Option Rat}{j:Nat}(hu:Rb j (vv u))(hv:Rb j (vv v))(h9:j≤2000000)(h:rv u=rv v):u=v:=by
 cases u with
 | none =>
  cases v with
  | none=>rfl
  | some y =>
   have h1:gp (bT 0 0)=some (0,0):=gM (by unfold Sm;decide) (by unfold Sm;decide)
   have h2:gp (bT y.num y.den)=some (y.num,(y.den:Int)):=gM (hv.1.sm h9) (hv.2.sm h9)
   have h3:bT 0 0=bT y.num y.den:=h
   rw[h3,h2] at h1
   simp only[Option.some.injEq,Prod.mk.injEq] at h1
   exact absurd h1.2 (A0 y)
 | some x =>
  have h2:gp (bT x.num x.den)=some (x.num,(x.den:Int)):=gM (hu.1.sm h9) (hu.2.sm h9)
  cases v with
  | none =>
   have h1:gp (bT 0 0)=some (0,0):=gM (by unfold Sm;decide) (by unfold Sm;decide)
   have h3:bT x.num x.den=bT 0 0:=h
   rw[← h3,h2] at h1
   simp only[Option.some.injEq,Prod.mk.injEq] at h1
   exact absurd h1.2 (A0 x)
  | some y =>
   have h1:gp (bT y.num y.den)=some (y.num,(y.den:Int)):=gM (hv.1.sm h9) (hv.2.sm h9)
   have h3:bT x.num x.den=bT y.num y.den:=h
   rw[← h3,h2] at h1
   simp only[Option.some.injEq,Prod.mk.injEq] at h1
   congr 1
   exact Rat.ext h1.1 (by omega)
noncomputable def rtF:List PV→Option (List PV):=ctr (fun u:Option Rat=>[rv u]) (fun u=>Rb 1000000 (vv u)) fun u=>[qt (vv u)]
theorem V5:Ab.Spec base.P 44 rtF:=Ab.Spec.bL (C:=CC LQ2) (cU Bc) fun args rs h=>by
 obtain⟨u,hu,rfl,rfl⟩:=dj h
 obtain⟨b,b1,b2,b3,b4⟩:=nS hu (by omega)
 have gd:=aeU (L:=LQ2) rfl (runK (CC LQ2) 1) hu (by omega)
 have go:=aeT (L:=LQ2) rfl (runK (CC LQ2) 1)
 have gn:=UH (L:=LQ2) rfl (runK (CC LQ2) 1) (vv u).num hu.1 (by omega)
 have gt:=UH (L:=LQ2) rfl (runK (CC LQ2) 1) (vv u).den hu.2 (by omega)
 have gc:=adb (L:=LQ2) rfl (runK (CC LQ2) 1) (vv u).den 1 (hu.2.sm (by omega)) Bb
 have hp:=(vv u).den_pos
 show ∃ k rs1 hp1 wr rs2 ids,runK (CC LQ2) k 44 [rv u] []=_∧_∧WkL rs2 [qt (vv u)]
 rw[b1] at gd ⊢
 generalize vv u=x at *
 by_cases h1:(x.den:Int)=1
 ·rw[h1] at gd gc
  obtain⟨st,x1,x2⟩:=KV LQ2 (runK (CC LQ2) 1) 1 x.num b 1 1 _ gd go gc gn
  refine⟨2,_,_,_,_,_,aQ xg rfl x1 x2,rfl,?_,trivial⟩
  have:qt x = .sc (.string (tx (ztx x.num))):=by unfold qt qb qtx;rw[if_pos h1]
  rw[this]
  exact Wk.refl rfl
 ·have hc:fE x.den 1≠0:=by
   unfold fE
   rw[if_neg (by omega),if_neg h1];decide
  have l1:=hu.1.dQ
  have l2:=hu.2.dQ
  have hl:∀ z:Int,(ztx z).length≤Ab.dQ z+1:=fun z=>by rw[fT];cases bq z <;> simp <;> omega
  have m1:=hl x.num
  have m2:=hl x.den
  obtain⟨st,x1,x2⟩:=Fv LQ2 (runK (CC LQ2) 1) 1 x.num b x.den _ 1 _ _ _ _ hc (NF (ztx x.num) [47] (by simp;omega)) (NF (ztx x.num++[47]) (ztx x.den) (by simp;omega)) gd go gc gn gt
  refine⟨2,_,_,_,_,_,aQ xg rfl x1 x2,rfl,?_,trivial⟩
  have:qt x = .sc (.string (tx (ztx x.num++[47]++ztx x.den))):=by unfold qt qb qtx;rw[if_neg h1];simp
  rw[this]
  exact Wk.refl rfl
theorem Zt {L:Lst}(hL:bt L 44=fun a=>rtF (aJ a))(run:aq){u:Option Rat}{j:Nat}(hu:Rb j (vv u))(h:j≤1000000):av L run 44 [rv u] (qt (vv u)) :=
 jf OM hL (fun x y hx hy h=>by
  have h1:rv x=rv y:=by simpa using h
  rw[Pf hx hy (by omega) h1]) run u (hu.mono h) (oZ · u) (rp u)
theorem MV (L:Lst)(run:aq)(k:Nat)(a b x y n m:Int)(g1:av L run 97 [.sc (.int .i64 a)] (bk x))(g2:av L run 97 [.sc (.int .i64 b)] (bk y))(g3:av L run 104 [bk x,bk y] (bT n m)) :
  ∃ st,af (CC L) run k (Tryz.f110.body.getD .skip) ⟨entry 10 [.sc (.int .i64 a),.sc (.int .i64 b)],[],[]⟩=some (.ret,st)∧aZ TT st.fr st.hp Tryz.f110.results.toList=some [bT n m]:=by
 obtain⟨h1,h2,h3⟩:=cA 8 (.sc (.int .i64 a)) (.sc (.int .i64 b))
 generalize entry 10 [.sc (.int .i64 a),.sc (.int .i64 b)]=fr0 at *
 unfold av at *
 simp only[whW,fv] at *
 simp[Tryz.f110,h1,h2,h3,af,aH,an,ao,aG,ag,ai,aP,aj,ak,aC,az,FP.none,partOf,aa,ae,ab,bf,bg,bO,bx,aX,g1,g2,g3,sR,aR,zR,aM,aU,aV,bP,bZ,bA,bn,aZ,number,FP.free]
def DE:List PV→Option (List PV)
 | [.sc (.int .i64 1),.sc (.int .i64 1)]=>some [rv (some 1)]
 | [.sc (.int .i64 1),.sc (.int .i64 2)]=>some [rv (some (1 / 2))]
 | [.sc (.int .i64 2),.sc (.int .i64 1)]=>some [rv (some 2)]
 | _=>none
theorem wo (a b:Nat)(h0:b≠0)(ha:(a:Int)=1∨(a:Int)=2)(hb:(b:Int)=1∨(b:Int)=2):∃ k rs1 hp1 wr rs2 ids,runK (CC LQ2) k 110 [.sc (.int .i64 (a:Int)),.sc (.int .i64 (b:Int))] []=some (rs1,hp1,wr)∧bm (snap hp1 bh) rs1=some (rs2,ids)∧WkL rs2 [rv (some (Rat.divInt a b))]:=by
 have go:∀ z:Int,z=1∨z=2→av LQ2 (runK (CC LQ2) 1) 97 [.sc (.int .i64 z)] (bk z):=fun z hz dr hp =>
  bp (L:=LQ2) (f:=ofF) x6 rfl _ dr hp _ [bk z] rfl rfl (by rcases hz with rfl | rfl <;> rfl)
 have gv:=adi (L:=LQ2) rfl (runK (CC LQ2) 1) a b (by rcases ha with h | h <;> rw[h] <;> unfold Sm <;> decide) (by rcases hb with h | h <;> rw[h] <;> unfold Sm <;> decide) (by omega)
 obtain⟨st,x1,x2⟩:=MV LQ2 (runK (CC LQ2) 1) 1 a b a b _ _ (go _ ha) (go _ hb) gv
 exact⟨2,_,_,_,_,_,aQ NW rfl x1 x2,rfl,Wk.refl rfl,trivial⟩
theorem MU:Ab.Spec base.P 110 DE:=Ab.Spec.bL (C:=CC LQ2) (cU Bc) fun args rs h=>by
 unfold DE at h
 split at h
 ·simp only[Option.some.injEq] at h
  subst h
  exact wo 1 1 (by omega) (.inl rfl) (.inl rfl)
 ·simp only[Option.some.injEq] at h
  subst h
  have e:(1 / 2:Rat)=Rat.divInt (1:Nat) (2:Nat):=by rw[Hd];rfl
  rw[e]
  exact wo 1 2 (by omega) (.inl rfl) (.inr rfl)
 ·simp only[Option.some.injEq] at h
  subst h
  exact wo 2 1 (by omega) (.inr rfl) (.inl rfl)
 ·cases h
theorem adk {L:Lst}(hL:bt L 110=fun a=>DE (aJ a))(run:aq):av L run 110 [.sc (.int .i64 1),.sc (.int .i64 1)] (rv (some 1)):=fun dr hp =>
 bp VW hL run dr hp _ [rv (some 1)] rfl rfl rfl
def IsV (s:ByteArray):Prop:=∃ x:Rat,s=qb x∧Rb 1000 x
noncomputable def rrP (s:ByteArray):Int × Int:=@Classical.epsilon (Int × Int) ⟨(0,0)⟩ fun p=>rrF [.sc (.string s)]=some [bT p.1 p.2,.sc (.bool (pB (IsQ s)))]
theorem Fx (s:ByteArray)(h9:(bys s).length≤1000000):rrF [.sc (.string s)]=some [bT (rrP s).1 (rrP s).2,.sc (.bool (pB (IsQ s)))]∧∀ x,s=qb x→bT (rrP s).1 (rrP s).2=rv (some x):=by
 obtain⟨n,d,h1,h2,-⟩:=adM s h9
 have h3:rrF [.sc (.string s)]=some [bT (rrP s).1 (rrP s).2,.sc (.bool (pB (IsQ s)))]:=Classical.epsilon_spec (p:=fun p:Int × Int=>rrF [.sc (.string s)]=some [bT p.1 p.2,.sc (.bool (pB (IsQ s)))]) ⟨(n,d),h1⟩
 refine⟨h3,fun x hx => ?_⟩
 rw[h1] at h3
 simp only[Option.some.injEq,List.cons.injEq,and_true] at h3
 rw[← h3]
 exact h2 x hx
theorem aeS {L:Lst}(hL:bt L 108=fun a=>rrF (aJ a))(run:aq)(s:ByteArray)(h9:(bys s).length≤1000000):av L run 108 [.sc (.string s)] (.tup [bT (rrP s).1 (rrP s).2,.sc (.bool (pB (IsQ s)))]):=fun dr hp =>
 bp Fk hL run dr hp _ [bT (rrP s).1 (rrP s).2,.sc (.bool (pB (IsQ s)))] rfl rfl (Fx s h9).1
theorem QR {x:Rat}{k:Nat}(h:Rb k x):(bys (qb x)).length≤2*k+5:=by
 rw[Uk]
 unfold qtx
 have l1:=h.1.dQ
 have l2:=h.2.dQ
 have hl:∀ z:Int,(ztx z).length≤Ab.dQ z+1:=fun z=>by rw[fT];cases bq z <;> simp <;> omega
 have m1:=hl x.num
 have m2:=hl x.den
 split
 ·omega
 ·simp;omega
theorem aeR {L:Lst}(hL:bt L 108=fun a=>rrF (aJ a))(run:aq){x:Rat}{k:Nat}(hx:Rb k x)(hk:k≤400000):av L run 108 [qt x] (.tup [rv (some x),.sc (.bool true)]):=by
 have h9:(bys (qb x)).length≤1000000:=Nat.le_trans (QR hx) (by omega)
 have h:=aeS hL run (qb x) h9
 rw[(Fx (qb x) h9).2 x rfl,ji ⟨x,rfl⟩] at h
 exact h
theorem JP {L:Lst}(hL:bt L 43=fun a=>mf (aJ a))(run:aq){u:Option Rat}{j:Nat}(hu:Rb j (vv u))(h:j≤1000000):av L run 43 [rv u] (.sc (.bool (!pB (Rb 1000 (vv u))))):=fun dr hp =>
 bp ON hL run dr hp _ [.sc (.bool (!pB (Rb 1000 (vv u))))] (oZ hp u) (rp u) (K3 hu h)
theorem Wh (L:Lst)(run:aq)(k:Nat)(s:ByteArray)(n d:Int)(g1:av L run 108 [.sc (.string s)] (.tup [bT n d,.sc (.bool false)])) :
  ∃ st,af (CC L) run k (Tryz.f133.body.getD .skip) ⟨entry 18 [.sc (.string s)],[],[]⟩=some (.ret,st)∧aZ TT st.fr st.hp Tryz.f133.results.toList=some [bT n d,.sc (.bool false)]:=by
 obtain⟨h1,h2⟩:=cP 17 (.sc (.string s))
 generalize entry 18 [.sc (.string s)]=fr0 at *
 unfold av at *
 simp only[fv] at *
 simp[Tryz.f133,h1,h2,af,aH,an,ao,aG,ag,ai,aP,aj,ak,aC,az,FP.none,au,partOf,aa,ae,ab,bf,bg,bO,bx,aX,g1,sR,aR,zR,aM,aU,aV,bP,bZ,bA,bn,aZ,number,FP.free,cB,FP.apart,undef]
theorem Pu (L:Lst)(run:aq)(k:Nat)(s:ByteArray)(n d:Int)(lg:Bool)(g1:av L run 108 [.sc (.string s)] (.tup [bT n d,.sc (.bool true)]))(g2:av L run 43 [bT n d] (.sc (.bool lg))) :
  ∃ st,af (CC L) run k (Tryz.f133.body.getD .skip) ⟨entry 18 [.sc (.string s)],[],[]⟩=some (.ret,st)∧aZ TT st.fr st.hp Tryz.f133.results.toList=some [bT n d,.sc (.bool (!lg))]:=by
 obtain⟨h1,h2⟩:=cP 17 (.sc (.string s))
 generalize entry 18 [.sc (.string s)]=fr0 at *
 unfold av at *
 simp only[fv] at *
 simp[Tryz.f133,h1,h2,af,aH,an,ao,aG,ag,ai,aP,aj,ak,aC,az,FP.none,au,partOf,unP,aa,ae,ab,bf,bg,bO,bx,aX,g1,g2,sR,aR,zR,aM,aU,aV,bP,bZ,bA,bn,aZ,number,FP.free,cB,FP.apart,undef]
noncomputable def ZD:List PV→Option (List PV):=ctr (fun s:ByteArray=>[.sc (.string s)]) (fun s=>(bys s).length≤100000) fun s=>[bT (rrP s).1 (rrP s).2,.sc (.bool (pB (IsV s)))]
theorem ZR {x:Rat}{k:Nat}(h:(bys (qb x)).length≤k):Rb (k+1) x:=by
 have h2:=tq (bys (qb x))
 rw[j7] at h2
 dsimp only at h2
 exact⟨HH rfl (by omega),HH rfl (by omega)⟩
theorem ES:Ab.Spec base.P 133 ZD:=Ab.Spec.bL (C:=CC LQ2) (cU Bc) fun args rs h=>by
 obtain⟨s,h9,rfl,rfl⟩:=dj h
 have g1:=aeS (L:=LQ2) rfl (runK (CC LQ2) 1) s (by omega)
 show ∃ k rs1 hp1 wr rs2 ids,_∧_∧WkL rs2 [bT (rrP s).1 (rrP s).2,.sc (.bool (pB (IsV s)))]
 by_cases hq:IsQ s
 ·rw[ji hq] at g1
  obtain⟨x,hx⟩:=hq
  have hb:Rb 100001 x:=ZR (by rw[← hx];exact h9)
  have g2:=JP (L:=LQ2) rfl (runK (CC LQ2) 1) (u:=some x) hb (by omega)
  have e:=(Fx s (by omega)).2 x hx
  rw[← e] at g2
  obtain⟨st,x1,x2⟩:=Pu LQ2 (runK (CC LQ2) 1) 1 s _ _ _ g1 g2
  refine⟨2,_,_,_,_,_,aQ xf rfl x1 x2,rfl,Wk.refl rfl,?_,trivial⟩
  have:pB (IsV s)=pB (Rb 1000 x):=by
   by_cases h1:Rb 1000 x
   ·rw[ji h1,ji ⟨x,hx,h1⟩]
   ·rw[jj h1,jj]
    rintro⟨y,hy,h2⟩
    have:=qQ (hx.symm.trans hy)
    subst this
    exact h1 h2
  rw[this,Bool.not_not]
  exact Wk.refl rfl
 ·rw[jj hq] at g1
  have : ¬ IsV s:=fun ⟨x,hx,_⟩=>hq ⟨x,hx⟩
  rw[jj this]
  obtain⟨st,x1,x2⟩:=Wh LQ2 (runK (CC LQ2) 1) 1 s _ _ g1
  exact⟨2,_,_,_,_,_,aQ xf rfl x1 x2,rfl,Wk.refl rfl,Wk.refl rfl,trivial⟩
noncomputable def LQ3:Lst:=(133,ZD)::LQ2
theorem ac5:dK base.P LQ3:=⟨ES,Bc⟩
theorem N6 (L:Lst)(run:aq)(k:Nat)(s:ByteArray)(n d:Int)(v:Bool)(g1:av L run 133 [.sc (.string s)] (.tup [bT n d,.sc (.bool v)])) :
  ∃ st,af (CC L) run k (Tryz.f77.body.getD .skip) ⟨entry 11 [.sc (.string s)],[],[]⟩=some (.ret,st)∧aZ TT st.fr st.hp Tryz.f77.results.toList=some [.sc (.bool v)]:=by
 obtain⟨h1,h2⟩:=cP 10 (.sc (.string s))
 generalize entry 11 [.sc (.string s)]=fr0 at *
 unfold av at *
 simp only[fv] at *
 simp[Tryz.f77,h1,h2,af,aH,an,ao,aG,ag,ai,aP,aj,ak,aC,az,FP.none,au,aa,ae,ab,bf,bg,bO,bx,aX,g1,sR,zR,aM,aV,bP,bZ,aZ,undef]
noncomputable def EO:List PV→Option (List PV):=ctr (fun s:ByteArray=>[.sc (.string s)]) (fun s=>(bys s).length≤100000) fun s=>[.sc (.bool (pB (IsV s)))]
theorem oX {s t:ByteArray}(h:[PV.sc (.string s)]=[PV.sc (.string t)]):s=t:=by simpa using h
theorem EN:Ab.Spec base.P 77 EO:=Ab.Spec.bL (C:=CC LQ3) (cU ac5) fun args rs h=>by
 obtain⟨s,h9,rfl,rfl⟩:=dj h
 have g1:av LQ3 (runK (CC LQ3) 1) 133 [.sc (.string s)] (.tup [bT (rrP s).1 (rrP s).2,.sc (.bool (pB (IsV s)))]) :=
  jf OL (L:=LQ3) (e:=fun s:ByteArray=>[.sc (.string s)]) (f:=fun s=>[bT (rrP s).1 (rrP s).2,.sc (.bool (pB (IsV s)))]) (ok:=fun s=>(bys s).length≤100000) rfl (fun x y _ _ h=>by rw[oX h]) _ s h9 (fun _=>rfl) rfl
 obtain⟨st,x1,x2⟩:=N6 LQ3 (runK (CC LQ3) 1) 1 s _ _ _ g1
 exact⟨2,_,_,_,_,_,aQ ED rfl x1 x2,rfl,Wk.refl rfl,trivial⟩
theorem Zs {L:Lst}(hL:bt L 77=fun a=>EO (aJ a))(run:aq)(s:ByteArray)(h9:(bys s).length≤100000):av L run 77 [.sc (.string s)] (.sc (.bool (pB (IsV s)))) :=
 jf KK (e:=fun s:ByteArray=>[.sc (.string s)]) hL (fun x y _ _ h=>by rw[oX h]) run s h9 (fun _=>rfl) rfl
noncomputable def LQ4:Lst:=[(48,nf),(64,isF)]
theorem ac4:dK base.P LQ4:=⟨rW,Yb,trivial⟩
theorem KT (L:Lst)(run:aq)(k:Nat)(s:ByteArray)(lg v:Bool)(g1:av L run 48 [.sc (.string s)] (.sc (.bool lg)))(g2:av L run 64 [.sc (.string s)] (.sc (.bool v))) :
  ∃ st,af (CC L) run k (Tryz.f23.body.getD .skip) ⟨entry 10 [.sc (.string s)],[],[]⟩=some (.ret,st)∧aZ TT st.fr st.hp Tryz.f23.results.toList=some [.sc (.bool (!lg && v))]:=by
 obtain⟨h1,h2⟩:=cP 9 (.sc (.string s))
 generalize entry 10 [.sc (.string s)]=fr0 at *
 unfold av at *
 cases lg <;> simp[Tryz.f23,h1,h2,af,aH,an,ao,aG,ag,ai,aP,aj,ak,aC,az,FP.none,au,unP,aa,ae,ab,g1,g2,aZ,undef]
theorem Hh (z:Int):eH (ztx z)=Ab.dQ z:=by
 have h3:ztx z=(bif bq z then [45] else [])++dtx z.natAbs:=tN z
 rw[h3]
 unfold Ab.dQ
 have hd:=pO z.natAbs
 cases bq z with
 | true=>rfl
 | false =>
  rw[cond_false,List.nil_append]
  cases e:dtx z.natAbs with
  | nil=>rfl
  | cons a l =>
   rw[e] at hd
   have ha:=dy.1 (fJ hd List.mem_cons_self)
   show (bif a.beq 45 then l.length else (a::l).length)=_
   rw[oH (show a≠45 by omega)];rfl
theorem Dh (z:Int):decide (1000<eH (ztx z)) = !pB (Nb 1000 z):=by
 rw[Hh]
 unfold Ab.dQ
 have h:=rh (n:=z.natAbs) (k:=1000) (by omega)
 by_cases hn:Nb 1000 z
 ·rw[ji hn,decide_eq_false (by have:=h.2 hn;omega)];rfl
 ·rw[jj hn,decide_eq_true (by
   have : ¬ (dtx z.natAbs).length≤1000:=fun e=>hn (h.1 e)
   omega)];rfl
theorem Sl (x:Rat):yX (bys (qb x)) = !pB (Rb 1000 x):=by
 unfold yX
 rw[j7,Dh,Dh]
 by_cases h1:Nb 1000 x.num
 ·by_cases h2:Nb 1000 x.den
  ·rw[ji h1,ji h2,ji (show Rb 1000 x from ⟨h1,h2⟩)];rfl
  ·rw[ji h1,jj h2,jj (show ¬ Rb 1000 x from fun e=>h2 e.2)];rfl
 ·rw[jj h1,jj (show ¬ Rb 1000 x from fun e=>h1 e.1)];simp
noncomputable def IG:List PV→Option (List PV):=ctr (fun s:ByteArray=>[.sc (.string s)]) (fun s=>(bys s).length≤100000) fun s=>[.sc (.bool (pB (IsV s)))]
theorem x9:Ab.Spec base.P 23 IG:=Ab.Spec.bL (C:=CC LQ4) (cU ac4) fun args rs h=>by
 obtain⟨s,h9,rfl,rfl⟩:=dj h
 have g1:av LQ4 (runK (CC LQ4) 1) 48 [.sc (.string s)] (.sc (.bool (yX (bys s)))):=fun dr hp =>
  bp (L:=LQ4) (f:=nf) KH rfl _ dr hp _ [.sc (.bool (yX (bys s)))] rfl rfl (by
   have:(bys s).length.blt 20000000=true:=by rw[Nat.blt_eq];omega
   simp only[nf,this,cond_true])
 have g2:av LQ4 (runK (CC LQ4) 1) 64 [.sc (.string s)] (.sc (.bool (pB (IsQ s)))) :=
  jf VH (L:=LQ4) (e:=fun s:ByteArray=>[.sc (.string s)]) (ok:=fun s=>(bys s).length<1000000) (f:=fun s=>[.sc (.bool (pB (IsQ s)))]) rfl (fun x y _ _ h=>by rw[oX h]) _ s (show (bys s).length<1000000 by omega) (fun _=>rfl) rfl
 obtain⟨st,x1,x2⟩:=KT LQ4 (runK (CC LQ4) 1) 1 s _ _ g1 g2
 refine⟨2,_,_,_,_,_,aQ Bd rfl x1 x2,rfl,?_,trivial⟩
 have:pB (IsV s)=(!yX (bys s) && pB (IsQ s)):=by
  by_cases hq:IsQ s
  ·obtain⟨x,hx⟩:=hq
   subst hx
   rw[Sl,Bool.not_not,ji (show IsQ (qb x) from ⟨x,rfl⟩),Bool.and_true]
   by_cases h1:Rb 1000 x
   ·rw[ji h1,ji ⟨x,rfl,h1⟩]
   ·rw[jj h1,jj]
    rintro⟨y,hy,h2⟩
    have:=qQ hy
    subst this
    exact h1 h2
  ·rw[jj hq,Bool.and_false,jj fun ⟨x,hx,_⟩=>hq ⟨x,hx⟩]
 rw[this]
 exact Wk.refl rfl
theorem UJ {L:Lst}(hL:bt L 23=fun a=>IG (aJ a))(run:aq)(s:ByteArray)(h9:(bys s).length≤100000):av L run 23 [.sc (.string s)] (.sc (.bool (pB (IsV s)))) :=
 jf Fe (e:=fun s:ByteArray=>[.sc (.string s)]) hL (fun x y _ _ h=>by rw[oX h]) run s h9 (fun _=>rfl) rfl
def es (s:ByteArray):List PV:=[.sc (.string s)]
theorem acm:Ec 1 es where
 len:=fun _=>rfl
 okc:=fun _=>rfl
 can:=fun _=>rfl
 idf:=fun _=>rfl
 sn:=fun _ _ _=>rfl
def pE (p:List ByteArray):PV:=gB es p
def ep (p:List ByteArray):List PV:=[pE p]
theorem acn:Ec 1 ep:=acm.list
def cE (c:List (List ByteArray)):PV:=gB ep c
theorem uPt:und TT 39=some (.slice 27):=by kernel_rfl
theorem uCl:und TT 23=some (.slice 39):=by kernel_rfl
theorem uRs:und TT 38=some (.slice 27):=by kernel_rfl
theorem x8:cQ TT 27=some 1:=by kernel_rfl
theorem Ep:fN TT 27=some false:=by kernel_rfl
theorem sPt:cQ TT 39=some 1:=by kernel_rfl
theorem sCl:cQ TT 23=some 1:=by kernel_rfl
theorem aCl:fN TT 23=some false:=by kernel_rfl
theorem aPt:fN TT 39=some false:=by kernel_rfl
theorem gw (p:List ByteArray):eM (pE p)=some p.length:=rfl
theorem gx (c:List (List ByteArray)):eM (cE c)=some c.length:=rfl
theorem pS (c:List (List ByteArray)):(cE c).cells?=some [cE c]:=rfl
theorem DY (p:List ByteArray):canon (pE p)=pE p:=acm.Ho p
theorem mM (c:List (List ByteArray)):canon (cE c)=cE c:=acn.Ho c
theorem I9 {t:Nat}(hu:und TT t=some (.slice 27))(p:List ByteArray)(i:Nat)(hi:i<p.length):∃ r,ba TT t (pE p) (.sc (.int .i64 (i:Int)))=some (.iptr r)∧r.head?=some (.sc (.string p[i])):=by
 have h:=pK acm.toEl p i hi
 refine⟨bn (p.flatMap es) (i*1),?_,by rw[h];rfl⟩
 unfold pE gB
 simp only[ba,hu,bj,x8,hi,if_true]
theorem je {t:Nat}(hu:und TT t=some (.slice 39))(c:List (List ByteArray))(i:Nat)(hi:i<c.length):∃ r,ba TT t (cE c) (.sc (.int .i64 (i:Int)))=some (.iptr r)∧r.head?=some (pE c[i]):=by
 have h:=pK acn.toEl c i hi
 refine⟨bn (c.flatMap ep) (i*1),?_,by rw[h];rfl⟩
 unfold cE gB
 simp only[ba,hu,bj,sPt,hi,if_true]
theorem Gy:∀ {p q:List ByteArray},pE p=pE q→p=q
 | p,q,h=>by
  unfold pE gB at h
  simp only[PV.imm.injEq,true_and] at h
  have:∀ (p q:List ByteArray),p.flatMap es=q.flatMap es→p=q:=by
   intro p
   induction p with
   | nil=>intro q h;cases q with
    | nil=>rfl
    | cons a q=>simp[es] at h
   | cons a p ih=>intro q h;cases q with
    | nil=>simp[es] at h
    | cons b q =>
     simp only[List.flatMap_cons,es,List.cons_append,List.nil_append,List.cons.injEq,PV.sc.injEq,Value.string.injEq] at h
     rw[h.1,ih q h.2]
  exact this p q h.2
theorem A5 {c d:List (List ByteArray)}(h:cE c=cE d):c=d:=by
 unfold cE gB at h
 simp only[PV.imm.injEq,true_and] at h
 have:∀ (p q:List (List ByteArray)),p.flatMap ep=q.flatMap ep→p=q:=by
  intro p
  induction p with
  | nil=>intro q h;cases q with
   | nil=>rfl
   | cons a q=>simp[ep] at h
  | cons a p ih=>intro q h;cases q with
   | nil=>simp[ep] at h
   | cons b q =>
    simp only[List.flatMap_cons,ep,List.cons_append,List.nil_append,List.cons.injEq] at h
    rw[Gy h.1,ih q h.2]
 exact this c d h.2
noncomputable def pR (m:Nat)(p:List ByteArray):Nat:=if p.length=0∨3<p.length∨p.length≠m then 10 else bif p.all (fun s=>pB (IsV s)) then 0 else 1
noncomputable def jl (m:Nat):List (List ByteArray)→Nat
 | []=>0
 | p::r=>if pR m p=0 then jl m r else pR m p
def hdL (c:List (List ByteArray)):Nat:=match c with
 | []=>0
 | p::_=>p.length
noncomputable def chk (c:List (List ByteArray)):Nat:=if 64<c.length then 3 else jl (hdL c) c
def Fit (c:List (List ByteArray)):Prop:=c.length≤100∧∀ p ∈ c,p.length≤100∧∀ s ∈ p,(bys s).length≤100000
theorem EJ:base.F.get 80=some Tryz.f80:=by kernel_rfl
theorem KQ:base.shared 80=false:=by kernel_rfl
noncomputable def ckC:Code:=Tryz.f80.body.getD .skip
noncomputable def ckO:Code:=(aF ckC).getD .skip
noncomputable def ckI:Code:=(aF ckO).getD .skip
def CF (fr:List PV)(c:List (List ByteArray))(j:Nat):Prop:=fr.length=44∧nth fr 0=cE c∧nth fr 10=cE c∧nth fr 11=iv c.length∧nth fr 12=iv j
theorem Y7 (L:Lst)(run:aq)(k:Nat)(fr:List PV)(c:List (List ByteArray))(j:Nat)(n:Nat)(h:CF fr c j)(h34:nth fr 34=iv n)(h35:nth fr 35=iv n) :
  ∃ fr',af (CC L) run k ckI ⟨fr,[],[]⟩=some (.exit 2,⟨fr',[],[]⟩)∧CF fr' c j:=by
 obtain⟨h0,h1,h10,h11,h12⟩:=h
 simp only[iv] at h34 h35 h11 h12
 simp[CF,iv,ckI,ckO,ckC,Tryz.f80,aF,af,aH,an,ao,aG,ag,ai,aj,ak,aC,az,FP.none,bc,ar,bd,aa,ae,ab,h0,h1,h10,h11,h12,h34,h35]
theorem Nc (L:Lst)(run:aq)(k:Nat)(fr:List PV)(c:List (List ByteArray))(j:Nat)(p:List ByteArray)(i:Nat)(hi:i<p.length)(h9:p.length≤100)(v:Bool)(g:av L run 77 [.sc (.string p[i])] (.sc (.bool v)))(h:CF fr c j)(h33:nth fr 33=pE p)(h34:nth fr 34=iv p.length)(h35:nth fr 35=iv i) :
  ∃ fr',af (CC L) run k ckI ⟨fr,[],[]⟩=some (bif v then .normal else .ret,⟨fr',[],[]⟩)∧(v=true→CF fr' c j∧nth fr' 33=pE p∧nth fr' 34=iv p.length∧nth fr' 35=iv (i+1))∧(v=false→nth fr' 2=iv 1):=by
 obtain⟨h0,h1,h10,h11,h12⟩:=h
 obtain⟨r,x1,x2⟩:=I9 uPt p i hi
 have hw:=bF i (by omega)
 unfold av at g
 generalize p[i]=s at *
 simp only[iv] at h34 h35 h11 h12
 cases v <;> simp[CF,iv,ckI,ckO,ckC,Tryz.f80,aF,af,aH,an,ao,aG,ag,ai,aP,aj,ak,aC,az,FP.none,bc,ar,bd,au,partOf,unP,aa,ae,ab,bf,and_assoc,h0,h1,h10,h11,h12,h33,h34,h35,hi,x1,x2,g,hw,aU,Ep,x8]
theorem DV (L:Lst)(run:aq)(k:Nat)(c:List (List ByteArray))(j:Nat)(p:List ByteArray)(h9:p.length≤100)(g:∀ s ∈ p,av L run 77 [.sc (.string s)] (.sc (.bool (pB (IsV s))))):∀ (n i:Nat) (fr:List PV),i+n=p.length→CF fr c j→nth fr 33=pE p→nth fr 34=iv p.length→nth fr 35=iv i →
  ∃ fr',bX (af (CC L) run k ckI) (n+1) ⟨fr,[],[]⟩=some (bif (p.drop i).all (fun s=>pB (IsV s)) then .exit 2 else .ret,⟨fr',[],[]⟩)∧((p.drop i).all (fun s=>pB (IsV s))=true→CF fr' c j)∧((p.drop i).all (fun s=>pB (IsV s))=false→nth fr' 2=iv 1)
 | 0,i,fr,hin,h,h33,h34,h35=>by
  have e:i=p.length:=by omega
  subst e
  obtain⟨fr',q1,q2⟩:=Y7 L run k fr c j p.length h h34 h35
  rw[List.drop_length]
  exact⟨fr',bw q1,fun _=>q2,nofun⟩
 | n+1,i,fr,hin,h,h33,h34,h35=>by
  have hi:i<p.length:=by omega
  obtain⟨fr1,q1,q2,q3⟩:=Nc L run k fr c j p i hi h9 _ (g _ (List.getElem_mem hi)) h h33 h34 h35
  rw[List.drop_eq_getElem_cons hi,List.all_cons]
  cases hv:pB (IsV p[i]) with
  | false =>
   rw[hv] at q1 q3
   exact⟨fr1,eN q1,nofun,fun _=>q3 rfl⟩
  | true =>
   rw[hv] at q1 q2
   obtain⟨a1,a2,a3,a4⟩:=q2 rfl
   obtain⟨fr',s1,s2⟩:=DV L run k c j p h9 g n (i+1) fr1 (by omega) a1 a2 a3 a4
   rw[Bool.true_and]
   exact⟨fr',by rw[bV q1];exact s1,s2⟩
noncomputable def acH:Code:=seq1 ckO
noncomputable def acG:Code:=seq1 (cu ckO)
noncomputable def ckB:Code:=blk (seq1 (cu (cu ckO)))
noncomputable def TW:Code:=seq1 ckB
noncomputable def xz:Code:=seq1 (cu ckB)
noncomputable def TV:Code:=seq1 (cu (cu ckB))
noncomputable def TU:Code:=cu (cu (cu ckO))
theorem TS:ckO = .seq acH (.seq acG (.seq (.block 1 (.seq TW (.seq xz (.seq TV (.block 2 (.loop ckI)))))) TU)):=rfl
theorem Y6 (L:Lst)(run:aq)(k:Nat)(fr:List PV)(c:List (List ByteArray))(h:CF fr c c.length) :
  ∃ fr',af (CC L) run k ckO ⟨fr,[],[]⟩=some (.exit 0,⟨fr',[],[]⟩)∧fr'.length=44:=by
 obtain⟨h0,h1,h10,h11,h12⟩:=h
 simp only[iv] at h11 h12
 simp[ckO,ckC,Tryz.f80,aF,af,aH,an,ao,aG,ag,ai,aj,ak,aC,az,FP.none,bc,ar,bd,aa,ab,h0,h11,h12]
theorem aeC (L:Lst)(run:aq)(k:Nat)(fr:List PV)(c:List (List ByteArray))(j:Nat)(hj:j<c.length)(h:CF fr c j) :
  ∃ fr1 fr2,af (CC L) run k acH ⟨fr,[],[]⟩=some (.normal,⟨fr1,[],[]⟩)∧af (CC L) run k acG ⟨fr1,[],[]⟩=some (.normal,⟨fr1,[],[]⟩)∧af (CC L) run k TW ⟨fr1,[],[]⟩=some (.normal,⟨fr2,[],[]⟩)∧CF fr2 c j∧nth fr2 4=pE c[j]:=by
 obtain⟨h0,h1,h10,h11,h12⟩:=h
 obtain⟨r,x1,x2⟩:=je uCl c j hj
 generalize c[j]=p at *
 simp only[iv] at h11 h12
 refine⟨jh fr 13 (.sc (.bool true)),?_⟩
 simp[CF,iv,acH,acG,TW,ckB,blk,seq1,cu,ckO,ckC,Tryz.f80,aF,af,aH,an,ao,aG,ag,ai,aj,ak,aC,az,FP.none,bc,ar,bd,partOf,aa,ae,ab,bf,and_assoc,h0,h1,h10,h11,h12,hj,x1,x2,aU,aPt,sPt]
theorem acj (m:Nat):((m:Int) == 0)=decide (m=0):=by
 by_cases h:m=0
 ·subst h;rfl
 ·rw[decide_eq_false h,beq_eq_false_iff_ne];omega
theorem gt3 (m:Nat):((m:Int) > 3)=(3<m):=by apply propext;omega
set_option maxHeartbeats 1000000 in
theorem Y8 (L:Lst)(run:aq)(k:Nat)(fr:List PV)(c:List (List ByteArray))(j:Nat)(p:List ByteArray)(hc:0<c.length)(hb:p.length=0∨3<p.length∨p.length≠c[0].length)(h:CF fr c j)(h4:nth fr 4=pE p) :
  ∃ fr',af (CC L) run k xz ⟨fr,[],[]⟩=some (.ret,⟨fr',[],[]⟩)∧nth fr' 2=iv 10:=by
 obtain⟨h0,h1,h10,h11,h12⟩:=h
 obtain⟨r,x1,x2⟩:=je uCl c 0 hc
 rw[show (((0:Nat):Int))=(0:Int) from rfl] at x1
 generalize c[0]=q at *
 have hl:=gw p
 have hl2:=gw q
 generalize p.length=m at *
 generalize q.length=m0 at *
 by_cases b1:m=0
 ·subst b1
  simp[iv,xz,ckB,blk,seq1,cu,ckO,ckC,Tryz.f80,aF,af,aH,an,ao,aG,ag,ai,aj,ak,aC,az,FP.none,bc,ar,bd,au,bH,aa,ae,ab,bf,h0,h4,hl,uPt,undef]
 ·by_cases b2:3<m
  ·simp[iv,xz,ckB,blk,seq1,cu,ckO,ckC,Tryz.f80,aF,af,aH,an,ao,aG,ag,ai,aj,ak,aC,az,FP.none,bc,ar,bd,au,bH,aa,ae,ab,bf,h0,h4,hl,uPt,undef,b1,b2,acj,gt3]
  ·have b3:m≠m0:=by rcases hb with hb | hb | hb <;> first | exact absurd hb b1 | exact absurd hb b2 | exact hb
   simp[iv,xz,ckB,blk,seq1,cu,ckO,ckC,Tryz.f80,aF,af,aH,an,ao,aG,ag,ai,aj,ak,aC,az,FP.none,bc,ar,bd,au,bH,partOf,aa,ae,ab,bf,Ek,h0,h1,h4,hl,hl2,uPt,x1,x2,aU,aPt,sPt,b1,b2,b3,acj,gt3]
set_option maxHeartbeats 1000000 in
theorem acI (L:Lst)(run:aq)(k:Nat)(fr:List PV)(c:List (List ByteArray))(j:Nat)(p:List ByteArray)(hc:0<c.length)(b1:p.length≠0)(b2 : ¬ 3<p.length)(b3:p.length=c[0].length)(h:CF fr c j)(h4:nth fr 4=pE p) :
  ∃ fr1 fr',af (CC L) run k xz ⟨fr,[],[]⟩=some (.normal,⟨fr1,[],[]⟩)∧af (CC L) run k TV ⟨fr1,[],[]⟩=some (.normal,⟨fr',[],[]⟩)∧CF fr' c j∧nth fr' 33=pE p∧nth fr' 34=iv p.length∧nth fr' 35=iv 0:=by
 obtain⟨h0,h1,h10,h11,h12⟩:=h
 obtain⟨r,x1,x2⟩:=je uCl c 0 hc
 rw[show (((0:Nat):Int))=(0:Int) from rfl] at x1
 generalize c[0]=q at *
 have hl:=gw p
 have hl2:=gw q
 rw[← b3] at hl2
 clear b3
 generalize p.length=m at *
 obtain⟨fr1,g1,g2,g3,g4⟩:∃ fr1,af (CC L) run k xz ⟨fr,[],[]⟩=some (.normal,⟨fr1,[],[]⟩)∧CF fr1 c j∧nth fr1 4=pE p∧True:=by
  simp only[CF]
  simp[h10,h11,h12,xz,ckB,blk,seq1,cu,ckO,ckC,Tryz.f80,aF,af,aH,an,ao,aG,ag,ai,aj,ak,aC,az,FP.none,bc,ar,bd,au,bH,partOf,aa,ae,ab,bf,and_assoc,h0,h1,h4,hl,hl2,uPt,x1,x2,aU,aPt,sPt,b1,b2,acj,gt3]
 obtain⟨k0,k1,k10,k11,k12⟩:=g2
 refine⟨fr1,?_⟩
 rw[g1]
 simp[CF,iv,TV,ckB,blk,seq1,cu,ckO,ckC,Tryz.f80,aF,af,aH,an,ao,aG,ag,ai,aj,ak,aC,az,FP.none,au,bH,aa,ae,ab,bf,and_assoc,k0,k1,k10,k11,k12,g3,hl,uPt]
theorem aeB (L:Lst)(run:aq)(k:Nat)(fr:List PV)(c:List (List ByteArray))(j:Nat)(hj:j<1000)(h:CF fr c j) :
  ∃ fr',af (CC L) run k TU ⟨fr,[],[]⟩=some (.normal,⟨fr',[],[]⟩)∧CF fr' c (j+1):=by
 obtain⟨h0,h1,h10,h11,h12⟩:=h
 have hw:=bF j (by omega)
 simp only[iv] at h11 h12
 simp[CF,iv,TU,cu,ckO,ckC,Tryz.f80,aF,af,aH,an,ao,aG,ag,ai,aj,ak,aC,az,FP.none,bc,ar,bd,au,aa,ae,ab,h0,h1,h10,h11,h12,hw]
theorem DU (L:Lst)(run:aq)(k:Nat)(hk:200≤k)(c:List (List ByteArray))(hF:Fit c)(g:∀ s:ByteArray,(bys s).length≤100000→av L run 77 [.sc (.string s)] (.sc (.bool (pB (IsV s))))):∀ (n j:Nat) (fr:List PV),j+n=c.length→CF fr c j →
  (∃ fr',jl (hdL c) (c.drop j)=0∧bX (af (CC L) run k ckO) (n+1) ⟨fr,[],[]⟩=some (.exit 0,⟨fr',[],[]⟩)∧fr'.length=44)∨∃ fr',jl (hdL c) (c.drop j)≠0∧bX (af (CC L) run k ckO) (n+1) ⟨fr,[],[]⟩=some (.ret,⟨fr',[],[]⟩)∧nth fr' 2=iv (jl (hdL c) (c.drop j))
 | 0,j,fr,hjn,h=>by
  have e:j=c.length:=by omega
  subst e
  obtain⟨fr',q1,q2⟩:=Y6 L run k fr c h
  rw[List.drop_length]
  exact .inl ⟨fr',rfl,bw q1,q2⟩
 | n+1,j,fr,hjn,h=>by
  have hj:j<c.length:=by omega
  have hc:0<c.length:=by omega
  have hh:hdL c=c[0].length:=by
   cases c with
   | nil=>simp at hc
   | cons p r=>rfl
  obtain⟨fr1,fr2,a1,a2,a3,a4,a5⟩:=aeC L run k fr c j hj h
  have hFp:=hF.2 c[j] (List.getElem_mem hj)
  have hFc:=hF.1
  rw[List.drop_eq_getElem_cons hj]
  have run_ret:∀ {fr'},af (CC L) run k (.seq TW (.seq xz (.seq TV (.block 2 (.loop ckI))))) ⟨fr1,[],[]⟩=some (.ret,⟨fr',[],[]⟩)→bX (af (CC L) run k ckO) (n+1+1) ⟨fr,[],[]⟩=some (.ret,⟨fr',[],[]⟩):=by
   intro fr' hr
   refine eN ?_
   rw[TS,aw a1,aw a2]
   exact cg (jD hr)
  by_cases hb:c[j].length=0∨3<c[j].length∨c[j].length≠c[0].length
  ·obtain⟨fr',b1,b2⟩:=Y8 L run k fr2 c j c[j] hc hb a4 a5
   have hcp:pR (hdL c) c[j]=10:=by unfold pR;rw[hh,if_pos hb]
   refine .inr ⟨fr',?_,run_ret ?_,?_⟩
   ·rw[jl,hcp];simp
   ·rw[aw a3,cg b1]
   ·rw[jl,hcp];exact b2
  ·have n1:c[j].length≠0:=fun e=>hb (.inl e)
   have n2 : ¬ 3<c[j].length:=fun e=>hb (.inr (.inl e))
   have n3:c[j].length=c[0].length:=Classical.byContradiction fun e=>hb (.inr (.inr e))
   obtain⟨fr3,fr4,b1,b2,b3,b4,b5,b6⟩:=acI L run k fr2 c j c[j] hc n1 n2 n3 a4 a5
   obtain⟨fr5,d1,d2,d3⟩:=DV L run k c j c[j] hFp.1 (fun s hs=>g s (hFp.2 s hs)) c[j].length 0 fr4 (by omega) b3 b4 b5 b6
   rw[List.drop_zero] at d1 d2 d3
   have hcp:pR (hdL c) c[j]=bif c[j].all (fun s=>pB (IsV s)) then 0 else 1:=by unfold pR;rw[hh,if_neg hb]
   cases hv:c[j].all (fun s=>pB (IsV s)) with
   | false =>
    rw[hv] at d1 hcp
    have d4:=d3 hv
    refine .inr ⟨fr5,?_,run_ret ?_,?_⟩
    ·rw[jl,hcp];simp
    ·rw[aw a3,aw b1,aw b2]
     exact cW (bQ d1 (by omega))
    ·rw[jl,hcp];exact d4
   | true =>
    rw[hv] at d1 hcp
    have d4:=d2 hv
    obtain⟨fr6,e1,e2⟩:=aeB L run k fr5 c j (by omega) d4
    have hgo:af (CC L) run k ckO ⟨fr,[],[]⟩=some (.normal,⟨fr6,[],[]⟩):=by
     rw[TS,aw a1,aw a2]
     have:af (CC L) run k (.seq TW (.seq xz (.seq TV (.block 2 (.loop ckI))))) ⟨fr1,[],[]⟩=some (.normal,⟨fr5,[],[]⟩):=by
      rw[aw a3,aw b1,aw b2]
      exact bE (bQ d1 (by omega))
     rw[aw (ft this)]
     exact e1
    have hce:jl (hdL c) (c[j]::c.drop (j+1))=jl (hdL c) (c.drop (j+1)):=by rw[jl,hcp];rfl
    rw[hce,bV hgo]
    exact DU L run k hk c hF g n (j+1) fr6 (by omega) e2
noncomputable def TR:Code:=seq1 (seq1 (ah 2 ckC))
theorem acD:ah 2 ckC = .seq (.seq TR (.block 0 (.loop ckO))) (ah 3 ckC):=rfl
theorem Y4 (L:Lst)(run:aq)(k:Nat)(c:List (List ByteArray))(h:64<c.length):∃ st,af (CC L) run k ckC ⟨entry 44 [cE c],[],[]⟩=some (.ret,st)∧aZ TT st.fr st.hp Tryz.f80.results.toList=some [iv 3]:=by
 obtain⟨e1,e2⟩:=cP 43 (cE c)
 generalize entry 44 [cE c]=fr0 at *
 have hl:=gx c
 generalize c.length=m at *
 have h2:((m:Int) > 64)=True:=by simp;omega
 have h3:((64:Int)<m)=True:=by simp;omega
 simp[iv,ckC,Tryz.f80,e1,e2,af,aH,an,ao,aG,ag,ai,aj,ak,aC,az,FP.none,bc,ar,bd,au,bH,aa,ae,ab,bf,hl,uCl,h2,aZ]
theorem acF (L:Lst)(run:aq)(k:Nat)(c:List (List ByteArray))(h : ¬ 64<c.length):∃ fr fr',aY (CC L) run k 2 ckC ⟨entry 44 [cE c],[],[]⟩=some ⟨fr,[],[]⟩∧af (CC L) run k TR ⟨fr,[],[]⟩=some (.normal,⟨fr',[],[]⟩)∧CF fr' c 0:=by
 obtain⟨e1,e2⟩:=cP 43 (cE c)
 generalize entry 44 [cE c]=fr0 at *
 have hl:=gx c
 have h2:((c.length:Int) > 64)=False:=by simp;omega
 have h3:((64:Int)<c.length)=False:=by simp;omega
 obtain⟨fr,a1,a2,a3⟩:∃ fr,aY (CC L) run k 2 ckC ⟨fr0,[],[]⟩=some ⟨fr,[],[]⟩∧fr.length=44∧nth fr 0=cE c:=by
  simp[ckC,Tryz.f80,aY,e1,e2,af,aH,an,ao,aG,ag,ai,aj,ak,aC,az,FP.none,bc,ar,bd,au,bH,aa,ae,ab,bf,hl,uCl,h2]
 refine⟨fr,?_⟩
 rw[a1]
 simp[CF,iv,TR,seq1,ah,ckC,Tryz.f80,a2,a3,af,aH,an,ao,aG,ag,ai,aj,ak,aC,az,FP.none,au,bH,aa,ae,ab,bf,hl,uCl]
theorem Y3 (L:Lst)(run:aq)(k:Nat)(fr:List PV)(h0:fr.length=44):∃ st,af (CC L) run k (ah 3 ckC) ⟨fr,[],[]⟩=some (.ret,st)∧aZ TT st.fr st.hp Tryz.f80.results.toList=some [iv 0]:=by
 simp[iv,ckC,ah,Tryz.f80,h0,af,aH,an,ao,aG,ag,ai,aj,ak,aC,az,FP.none,au,aa,aZ]
theorem acE (fr:List PV)(n:Nat)(h:nth fr 2=iv n):aZ TT fr [] Tryz.f80.results.toList=some [iv n]:=by
 simp[Tryz.f80,aZ,h]
noncomputable def Hm:List PV→Option (List PV):=ctr (fun c=>[cE c]) Fit fun c=>[iv (chk c)]
theorem Y5 (L:Lst)(run:aq)(k:Nat)(hk:200≤k)(c:List (List ByteArray))(hF:Fit c)(g:∀ s:ByteArray,(bys s).length≤100000→av L run 77 [.sc (.string s)] (.sc (.bool (pB (IsV s))))) :
  ∃ st,af (CC L) run k ckC ⟨entry 44 [cE c],[],[]⟩=some (.ret,st)∧aZ TT st.fr st.hp Tryz.f80.results.toList=some [iv (chk c)]:=by
 unfold chk
 by_cases h:64<c.length
 ·rw[if_pos h];exact Y4 L run k c h
 ·rw[if_neg h]
  obtain⟨fr,fr1,a1,a2,a3⟩:=acF L run k c h
  rw[aO 2 a1,acD]
  have hl:=DU L run k hk c hF g c.length 0 fr1 (by omega) a3
  rw[List.drop_zero] at hl
  rcases hl with ⟨fr2,h0,b1,b2⟩| ⟨fr3,b0,b1,b2⟩
  ·have:af (CC L) run k (.seq TR (.block 0 (.loop ckO))) ⟨fr,[],[]⟩=some (.normal,⟨fr2,[],[]⟩):=by
    rw[aw a2];exact bE (bQ b1 (by have:=hF.1;omega))
   rw[aw this,h0]
   exact Y3 L run k fr2 b2
  ·have:af (CC L) run k (.seq TR (.block 0 (.loop ckO))) ⟨fr,[],[]⟩=some (.ret,⟨fr3,[],[]⟩):=by
    rw[aw a2];exact cW (bQ b1 (by have:=hF.1;omega))
   rw[cg this]
   exact⟨_,rfl,acE fr3 _ b2⟩
end Go.Proofs.YtjdmodeenbdfpaaGreat
