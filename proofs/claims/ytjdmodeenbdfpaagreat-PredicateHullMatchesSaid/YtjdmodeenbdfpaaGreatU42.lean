/- Contracts of the two hulls, of the program and of the reference, part 42; each lemma states its conditions. -/
import Derived.Test.YtjdmodeenbdfpaaGreatU41
import Derived.Test.YtjdmodeenbdfpaaGreatU34
import Derived.Test.YtjdmodeenbdfpaaGreatU39
import Derived.Test.YtjdmodeenbdfpaaGreatU16
import Derived.Test.YtjdmodeenbdfpaaGreatU40
set_option linter.unusedSimpArgs false
set_option linter.unusedVariables false
noncomputable section
namespace Go.Proofs.YtjdmodeenbdfpaaGreat
open Go Go.Ab List Tryz
variable(L:Lst)(run:av)(k:Nat)(fr:Ψ)(hp:Θ)(wr:Ω)
theorem uK:base.F.get 75=some f75:=by kernel_rfl
theorem MT:base.shared 75=false:=by kernel_rfl
def isC:Code:=f75.body.getD .skip
def isB:Code:=(az isC).getD .skip
def ru:Code:=(az (cI isB)).getD .skip
def E5:Code:=(az (cI ru)).getD .skip
theorem aiZ:ai 1 isC = .seq (.seq (seq1 (seq1 (ai 1 isC))) (.block 0 (.loop isB))) (ai 2 isC):=rfl
theorem adT:cI isB = .seq (seq1 (cI isB)) (.block 2 (.loop ru)):=rfl
theorem IZ:cI ru = .seq (seq1 (cI ru)) (.seq (seq1 (aO (cI ru))) (.block 4 (.loop E5))):=rfl
def qP (X:List P2):PV:=qC (X.map fun p=>[p.1,p.2])
def at2 (X:List P2)(i:Nat):P2:=X.getD i (0,0)
theorem gH {X:List P2}{i:Nat}(h:i<X.length):at2 X i=X[i]:=by simp[at2,h]
theorem kd {t:Nat}(hu:und TT t=some (.slice 39))(X:List P2)(i:Nat)(hi:i<X.length):∃ r,bc TT t (qP X) (.sc (.int .i64 (i:Int)))=some (.iptr r)∧r.head?=some (q2 (at2 X i)):=by
 obtain⟨r,a,b⟩:=kG hu ((X.map fun p=>[p.1,p.2]).map fun P=>P.map qb) i (by simpa using hi)
 refine⟨r,a,?_⟩
 rw[b,getElem_map,getElem_map,gH hi]
 rfl
theorem B0 (X:List P2):dc (qP X)=some X.length:=by
 unfold qP qC
 rw[fm];simp
def Mt (x y z:Int):Bool:=(x == y) && (y == z) && (x != 0)
theorem aiY(X:List P2)(p:PV)(i j n:Nat)(x y z:Int)(hi:i<X.length)(hj:j<X.length)(hn:n<X.length)(g1:aA L run 76 [q2 (at2 X i),q2 (at2 X j),p] (Ab.bJ x))(g2:aA L run 76 [q2 (at2 X j),q2 (at2 X n),p] (Ab.bJ y))(g3:aA L run 76 [q2 (at2 X n),q2 (at2 X i),p] (Ab.bJ z))(h0:fr.length=84)(h00:nth fr 0=qP X)(h1:nth fr 1=p)(h5:nth fr 5=iv i)(h6:nth fr 6=iv j)(h7:nth fr 7=iv n) :
  ∃ fr' wr',ae (CC L) run k (.block 5 (cI E5)) ⟨fr,hp,wr⟩=some (bif Mt x y z then .ret else .normal,⟨fr',hp,wr'⟩)∧(Mt x y z=true→nth fr' 4 = .sc (.bool true)):=by
 obtain⟨r1,a1,a2⟩:=kd yK X i hi
 obtain⟨r2,b1,b2⟩:=kd yK X j hj
 obtain⟨r3,c1,c2⟩:=kd yK X n hn
 unfold aA at *
 unfold Ab.bJ at *
 simp only[iv] at h5 h6 h7
 generalize q2 (at2 X i)=A at *
 generalize q2 (at2 X j)=B at *
 generalize q2 (at2 X n)=D at *
 generalize qP X=Q at *
 unfold Mt
 obtain⟨u1,hu1⟩:∃ b,(x == y)=b:=⟨_,rfl⟩
 obtain⟨u2,hu2⟩:∃ b,(y == z)=b:=⟨_,rfl⟩
 obtain⟨u3,hu3⟩:∃ b,(x != 0)=b:=⟨_,rfl⟩
 rw[hu1,hu2,hu3]
 cases u1 <;> cases u2 <;> cases u3 <;> simp[E5,ru,isB,isC,cI,f75,az,ae,aH,aq,ar,aF,ag,ah,aM,an,aj,aC,aG,FzZ,ba,aw,bg,au,partOf,aa,af,ab,bf,and_assoc,h0,h00,h1,h5,h6,h7,a1,a2,b1,b2,c1,c2,g1,g2,g3,aPt,sPt,aV,number,FP.free,hu1,hu2,hu3]
theorem aiS(X:List P2)(p:PV)(i j:Nat)(b:Bool)(hi:i<X.length)(hj:j<X.length)(g1:aA L run 132 [q2 (at2 X i),q2 (at2 X j),p] (.sc (.bool b)))(h0:fr.length=84)(h00:nth fr 0=qP X)(h1:nth fr 1=p)(h5:nth fr 5=iv i)(h6:nth fr 6=iv j) :
  ∃ fr' wr',ae (CC L) run k (seq1 (cI ru)) ⟨fr,hp,wr⟩=some (bif b then .ret else .normal,⟨fr',hp,wr'⟩)∧(b=true→nth fr' 4 = .sc (.bool true)):=by
 obtain⟨r1,a1,a2⟩:=kd yK X i hi
 obtain⟨r2,b1,b2⟩:=kd yK X j hj
 unfold aA at *
 simp only[iv] at h5 h6
 generalize q2 (at2 X i)=A at *
 generalize q2 (at2 X j)=B at *
 generalize qP X=Q at *
 cases b <;> simp[ru,isB,isC,cI,seq1,f75,az,ae,aH,aq,ar,aF,ag,ah,aM,an,aj,aC,aG,FzZ,au,partOf,aa,af,ab,bf,and_assoc,h0,h00,h1,h5,h6,a1,a2,b1,b2,g1,aPt,sPt,aV,number,FP.free]
theorem aiR(j:Nat)(hj:j≤1000)(h0:fr.length=84)(h6:nth fr 6=iv j) :
  ∃ fr',ae (CC L) run k (seq1 (aO (cI ru))) ⟨fr,hp,wr⟩=some (.normal,⟨fr',hp,wr⟩)∧nth fr' 7=iv (j+1):=by
 simp only[iv] at h6
 have hw:=bE j (by omega)
 simp[iv,ru,isB,isC,cI,seq1,aO,f75,az,ae,aH,aq,ar,aF,ag,ah,an,aj,aC,aG,FzZ,ba,aw,bg,au,aa,ab,h0,h6,hw]
theorem aiT(i:Nat)(h0:fr.length=84)(h5:nth fr 5=iv i) :
  ∃ fr',ae (CC L) run k (seq1 (cI isB)) ⟨fr,hp,wr⟩=some (.normal,⟨fr',hp,wr⟩)∧nth fr' 6=iv i:=by
 simp[iv,isB,isC,cI,seq1,f75,az,ae,aH,aq,ar,aF,ag,ah,an,aj,aC,aG,FzZ,aa,ab,h0,h5]
theorem aiU(h0:fr.length=84) :
  ∃ fr',ae (CC L) run k (seq1 (seq1 (ai 1 isC))) ⟨fr,hp,wr⟩=some (.normal,⟨fr',hp,wr⟩)∧nth fr' 5=iv 0:=by
 simp[iv,isC,ai,seq1,f75,ae,aH,aq,ar,aF,ag,ah,an,aj,aC,aG,FzZ,au,aa,h0]
theorem acb(h0:fr.length=84) :
  ∃ st,ae (CC L) run k (ai 2 isC) ⟨fr,hp,wr⟩=some (.ret,st)∧aY TT st.fr st.hp f75.results.toList=some [.sc (.bool false)]:=by
 simp[isC,ai,f75,ae,aH,aq,ar,aF,ag,ah,an,aj,aC,aG,FzZ,au,aa,h0,aY]
theorem af4 (L:Lst)(run:av)(k:Nat)(p q:PV):∃ fr,bh (CC L) run k 1 isC ⟨entry 84 [p,q],[],[]⟩=some ⟨fr,[],[]⟩∧fr.length=84∧nth fr 0=p∧nth fr 1=q:=by
 obtain⟨e1,e2,e3⟩:=cb 82 p q
 generalize entry 84 [p,q]=fr0 at *
 simp[isC,f75,bh,ae,aH,aq,ar,aF,ag,ah,an,aj,aC,aG,FzZ,au,af,ab,e1,e2,e3]
def GC (X:List P2)(p:P2)(i j n:Nat):Bool:=Mt (fk (at2 X i) (at2 X j) p) (fk (at2 X j) (at2 X n) p) (fk (at2 X n) (at2 X i) p)
def Mn (X:List P2)(p:P2)(i j:Nat):Prop:=Cn (at2 X i) (at2 X j) p=true∨∃ n,j<n∧n<X.length∧GC X p i j n=true
def PJ (X:List P2)(p:P2):Prop:=∃ i j,i≤j∧j<X.length∧Mn X p i j
def RT (st:St)(P:Prop):Prop:=nth st.fr 4 = .sc (.bool true)∧P
section
variable {L:Lst} {run:av} {k:Nat} {X:List P2} {p:P2}
theorem aiV (hk:X.length<k)(h9:X.length≤100)(G:∀ a b,a<X.length→b<X.length→aA L run 76 [q2 (at2 X a),q2 (at2 X b),q2 p] (Ab.bJ (fk (at2 X a) (at2 X b) p))){fr:Ψ}{hp:Θ}{wr:Ω}{i j:Nat}(hi:i<X.length)(hj:j<X.length)(h0:fr.length=84)(h00:nth fr 0=qP X)(h1:nth fr 1=q2 p)(h5:nth fr 5=iv i)(h6:nth fr 6=iv j)(h7:nth fr 7=iv (j+1)) :
  ∃ e st',ae (CC L) run k (.block 4 (.loop E5)) ⟨fr,hp,wr⟩=some (e,st')∧((e = .normal ∧ ¬ ∃ n,j<n∧n<X.length∧GC X p i j n=true)∨(e = .ret∧RT st' (∃ n,j<n∧n<X.length∧GC X p i j n=true))):=by
 obtain⟨e,st,a1,a2⟩:=Lp.R7 (C:=CC L) (run:=run) (k:=k) (l:=pf E5) (body:=cI E5) (m:=84) (B:=E5) rfl (by kernel_rfl) (by kernel_rfl) (by kernel_rfl) QO (n:=X.length) (j0:=j+1) (by omega) (by omega) (by omega) (J:=fun m _ _=>∀ n,j<n→n<m→GC X p i j n=false) (R:=fun st=>RT st (∃ n,j<n∧n<X.length∧GC X p i j n=true)) (fr0:=fr) (hp0:=hp) (wr0:=wr) (p:=qP X) h0 h00 (B0 X) h7
  (fun _ _ _ _ _ h=>h)
  (fun m fr' hp' wr' hm hmn hK hi' hJ=>by
   obtain⟨fr2,wr2,x1,x2⟩:=aiY L run k fr' hp' wr' X (q2 p) i j m _ _ _ hi hj hmn (G i j hi hj) (G j m hj hmn) (G m i hmn hi) (hK.len h0) (hK.at h00) (hK.at h1) (hK.at h5) (hK.at h6) hi'
   change ae (CC L) run k (.block 5 (cI E5)) ⟨fr',hp',wr'⟩=some (bif GC X p i j m then .ret else .normal,⟨fr2,hp',wr2⟩) at x1
   cases hb:GC X p i j m with
   | true=>exact⟨.ret,_,by rw[hb] at x1;exact x1,.inr ⟨rfl,x2 hb,m,by omega,hmn,hb⟩⟩
   | false =>
    refine⟨.normal,_,by rw[hb] at x1;exact x1,.inl ⟨rfl,fun n h1 h2 => ?_⟩⟩
    by_cases hnm:n=m
    ·rw[hnm];exact hb
    ·exact hJ n h1 (by omega))
  (fun n h1 h2=>by omega)
 refine⟨e,st,a1,?_⟩
 rcases a2 with ⟨rfl,-,a2⟩| a2
 ·refine .inl ⟨rfl,fun ⟨n,h1,h2,h3⟩ => ?_⟩
  rw[a2 n h1 h2] at h3;cases h3
 ·exact .inr a2
theorem aiW (hk:X.length<k)(h9:X.length≤100)(G:∀ a b,a<X.length→b<X.length→aA L run 76 [q2 (at2 X a),q2 (at2 X b),q2 p] (Ab.bJ (fk (at2 X a) (at2 X b) p)))(Gb:∀ a b,a<X.length→b<X.length→aA L run 132 [q2 (at2 X a),q2 (at2 X b),q2 p] (.sc (.bool (Cn (at2 X a) (at2 X b) p)))){fr:Ψ}{hp:Θ}{wr:Ω}{i:Nat}(hi:i<X.length)(h0:fr.length=84)(h00:nth fr 0=qP X)(h1:nth fr 1=q2 p)(h5:nth fr 5=iv i)(h6:nth fr 6=iv i) :
  ∃ e st',ae (CC L) run k (.block 2 (.loop ru)) ⟨fr,hp,wr⟩=some (e,st')∧((e = .normal ∧ ¬ ∃ j,i≤j∧j<X.length∧Mn X p i j)∨(e = .ret∧RT st' (∃ j,i≤j∧j<X.length∧Mn X p i j))):=by
 obtain⟨e,st,a1,a2⟩:=Lp.R7 (C:=CC L) (run:=run) (k:=k) (l:=pf ru) (body:=cI ru) (m:=84) (B:=ru) rfl (by kernel_rfl) (by kernel_rfl) (by kernel_rfl) QO (n:=X.length) (j0:=i) (by omega) (by omega) (by omega) (J:=fun m _ _=>∀ j,i≤j→j<m → ¬ Mn X p i j) (R:=fun st=>RT st (∃ j,i≤j∧j<X.length∧Mn X p i j)) (fr0:=fr) (hp0:=hp) (wr0:=wr) (p:=qP X) h0 h00 (B0 X) h6
  (fun _ _ _ _ _ h=>h)
  (fun j fr' hp' wr' hj hjn hK hi' hJ=>by
   obtain⟨fr2,wr2,x1,x2⟩:=aiS L run k fr' hp' wr' X (q2 p) i j _ hi hjn (Gb i j hi hjn) (hK.len h0) (hK.at h00) (hK.at h1) (hK.at h5) hi'
   cases hb:Cn (at2 X i) (at2 X j) p with
   | true =>
    rw[hb] at x1
    exact⟨.ret,⟨fr2,hp',wr2⟩,fo (by rw[IZ];exact bK x1),.inr ⟨rfl,x2 hb,j,hj,hjn,.inl hb⟩⟩
   | false =>
    rw[hb] at x1
    have k1:=aP _ x1
    have K1:=hK.len h0
    obtain⟨fr3,y1,y2⟩:=aiR L run k fr2 hp' wr2 j (by omega) (k1.len K1) (k1.at hi')
    have k2:=aP _ y1
    obtain⟨e,st,z1,z2⟩:=aiV (L:=L) (run:=run) (k:=k) (X:=X) (p:=p) (hp:=hp') (wr:=wr2) hk h9 G hi hjn (k2.len (k1.len K1)) (k2.at (k1.at (hK.at h00))) (k2.at (k1.at (hK.at h1))) (k2.at (k1.at (hK.at h5))) (k2.at (k1.at hi')) y2
    rcases z2 with ⟨rfl,z2⟩| ⟨rfl,z2,z3⟩
    ·refine⟨.normal,st,fC (by rw[IZ,ao x1,ao y1];exact z1),.inl ⟨rfl,fun j' h1 h2 h3 => ?_⟩⟩
     by_cases hjj:j'=j
     ·subst hjj
      rcases h3 with h3 | h3
      ·rw[hb] at h3;cases h3
      ·exact z2 h3
     ·exact hJ j' h1 (by omega) h3
    ·exact⟨.ret,st,fo (by rw[IZ,ao x1,ao y1];exact z1),.inr ⟨rfl,z2,j,hj,hjn,.inr z3⟩⟩)
  (fun n h1 h2=>by omega)
 refine⟨e,st,a1,?_⟩
 rcases a2 with ⟨rfl,-,a2⟩| a2
 ·exact .inl ⟨rfl,fun ⟨n,h1,h2,h3⟩=>a2 n h1 h2 h3⟩
 ·exact .inr a2
theorem aiX (hk:X.length<k)(h9:X.length≤100)(G:∀ a b,a<X.length→b<X.length→aA L run 76 [q2 (at2 X a),q2 (at2 X b),q2 p] (Ab.bJ (fk (at2 X a) (at2 X b) p)))(Gb:∀ a b,a<X.length→b<X.length→aA L run 132 [q2 (at2 X a),q2 (at2 X b),q2 p] (.sc (.bool (Cn (at2 X a) (at2 X b) p)))){fr:Ψ}{hp:Θ}{wr:Ω}(h0:fr.length=84)(h00:nth fr 0=qP X)(h1:nth fr 1=q2 p)(h5:nth fr 5=iv 0) :
  ∃ e st',ae (CC L) run k (.block 0 (.loop isB)) ⟨fr,hp,wr⟩=some (e,st')∧((e = .normal∧dX (df isB) fr st'.fr ∧ ¬ PJ X p)∨(e = .ret∧RT st' (PJ X p))):=by
 obtain⟨e,st,a1,a2⟩:=Lp.R7 (C:=CC L) (run:=run) (k:=k) (l:=pf isB) (body:=cI isB) (m:=84) (B:=isB) rfl (by kernel_rfl) (by kernel_rfl) (by kernel_rfl) QO (n:=X.length) (j0:=0) (by omega) (by omega) (by omega) (J:=fun m _ _=>∀ i j,i<m→i≤j→j<X.length → ¬ Mn X p i j) (R:=fun st=>RT st (PJ X p)) (fr0:=fr) (hp0:=hp) (wr0:=wr) (p:=qP X) h0 h00 (B0 X) h5
  (fun _ _ _ _ _ h=>h)
  (fun i fr' hp' wr' _ hin hK hi' hJ=>by
   have K1:=hK.len h0
   obtain⟨fr3,y1,y2⟩:=aiT L run k fr' hp' wr' i K1 hi'
   have k2:=aP _ y1
   obtain⟨e,st,z1,z2⟩:=aiW (L:=L) (run:=run) (k:=k) (X:=X) (p:=p) (hp:=hp') (wr:=wr') hk h9 G Gb hin (k2.len K1) (k2.at (hK.at h00)) (k2.at (hK.at h1)) (k2.at hi') y2
   rcases z2 with ⟨rfl,z2⟩| ⟨rfl,z2,j,z3⟩
   ·refine⟨.normal,st,fC (by rw[adT,ao y1];exact z1),.inl ⟨rfl,fun i' j' h1 h2 h3 h4 => ?_⟩⟩
    by_cases hii:i'=i
    ·subst hii;exact z2 ⟨j',h2,h3,h4⟩
    ·exact hJ i' j' (by omega) h2 h3 h4
   ·exact⟨.ret,st,fo (by rw[adT,ao y1];exact z1),.inr ⟨rfl,z2,i,j,z3⟩⟩)
  (fun i j h1=>by omega)
 refine⟨e,st,a1,?_⟩
 rcases a2 with ⟨rfl,a2,a3⟩| a2
 ·exact .inl ⟨rfl,a2,fun ⟨i,j,h1,h2,h3⟩=>a3 i j (by omega) h1 h2 h3⟩
 ·exact .inr a2
end
abbrev LXP:=List P2 × P2
def af3 (a:LXP):Ψ:=[qP a.1,q2 a.2]
def Oh (a:LXP):Prop:=a.1.length≤100∧(∀ i,i<a.1.length→Rb2 1000 (at2 a.1 i))∧Rb2 1000 a.2
def nQ (X:List P2)(p:P2):Bool:=pB (PJ X p)
def IY:Ψ→Option Ψ:=ctr af3 Oh fun a=>[.sc (.bool (nQ a.1 a.2))]
def LZc:Lst:=[(76,tuF),(132,beF)]
theorem agY:dt base.P LZc:=⟨Bi,adj,trivial⟩
theorem EY:Ab.Spec base.P 75 IY:=Ab.Spec.bL (C:=CC LZc) (cP agY) fun args rs h=>by
 obtain⟨⟨X,p⟩,⟨h9,hX,hp⟩,rfl,rfl⟩:=cX h
 dsimp only at h9 hX hp
 obtain⟨fr1,a1,a2,a3,a4⟩:=af4 LZc (runK (CC LZc) 200) 200 (qP X) (q2 p)
 obtain⟨fr2,b1,b2⟩:=aiU LZc (runK (CC LZc) 200) 200 fr1 [] [] a2
 have K2:=aP _ b1
 obtain⟨e,st,c1,c2⟩:=aiX (L:=LZc) (run:=runK (CC LZc) 200) (k:=200) (X:=X) (p:=p) (hp:=[]) (wr:=[]) (by omega) h9 (fun a b ha hb=>ahe rfl _ (hX a ha) (hX b hb) hp (by omega)) (fun a b ha hb=>aku rfl _ (hX a ha) (hX b hb) hp (by omega)) (K2.len a2) (K2.at a3) (K2.at a4) b2
 rcases c2 with ⟨rfl,c2,c3⟩| ⟨rfl,c2,c3⟩
 ·obtain⟨st',d1,d2⟩:=acb LZc (runK (CC LZc) 200) 200 st.fr st.hp st.wr (c2.len (K2.len a2))
  have hx:ae (CC LZc) (runK (CC LZc) 200) 200 isC ⟨entry 84 [qP X,q2 p],[],[]⟩=some (.ret,st'):=by
   have hs:ae (CC LZc) (runK (CC LZc) 200) 200 (.seq (seq1 (seq1 (ai 1 isC))) (.block 0 (.loop isB))) ⟨fr1,[],[]⟩=some (.normal,st):=by rw[ao b1];exact c1
   rw[aU 1 a1,aiZ,ao hs];exact d1
  have hv:nQ X p=false:=fT c3
  exact⟨_,_,_,_,_,_,aZ uK rfl hx d2,rfl,by dsimp only;rw[hv];exact Wk.refl rfl,trivial⟩
 ·have hx:ae (CC LZc) (runK (CC LZc) 200) 200 isC ⟨entry 84 [qP X,q2 p],[],[]⟩=some (.ret,st):=by
   have hs:ae (CC LZc) (runK (CC LZc) 200) 200 (.seq (seq1 (seq1 (ai 1 isC))) (.block 0 (.loop isB))) ⟨fr1,[],[]⟩=some (.ret,st):=by rw[ao b1];exact c1
   rw[aU 1 a1,aiZ]
   exact bK hs
  have hv:nQ X p=true:=gF c3
  have hr:aY TT st.fr st.hp f75.results.toList=some [.sc (.bool true)]:=by simp[f75,aY,c2]
  exact⟨_,_,_,_,_,_,aZ uK rfl hx hr,rfl,by dsimp only;rw[hv];exact Wk.refl rfl,trivial⟩
theorem sh:base.F.get 74=some f74:=by kernel_rfl
theorem Hb:base.shared 74=false:=by kernel_rfl
def rtC:Code:=f74.body.getD .skip
def rtB:Code:=(az rtC).getD .skip
theorem ahX:ai 2 rtC = .seq (.seq (seq1 (seq1 (ai 2 rtC))) (.block 0 (.loop rtB))) (ai 3 rtC):=rfl
theorem ael:und TT 38=some (.slice 27):=by kernel_rfl
theorem ahD:∃ el,und TT 38=some (.slice el):=⟨_,ael⟩
theorem VE (X:List Rat)(i:Nat)(hi:i<X.length):∃ r,bc TT 38 (qL X) (.sc (.int .i64 (i:Int)))=some (.iptr r)∧r.head?=some (.sc (.string (qb X[i]))):=by
 obtain⟨r,h1,h2⟩:=uv ael (X.map qb) i (by simpa using hi)
 refine⟨r,h1,?_⟩
 rw[h2,getElem_map]
theorem ajR(P Q:List Rat)(j:Nat)(hi:j<P.length)(hj:j<Q.length)(h0:fr.length=26)(h00:nth fr 0=qL P)(h1:nth fr 1=qL Q)(h5:nth fr 5=iv j) :
  ∃ fr' wr',ae (CC L) run k (.block 1 (cI rtB)) ⟨fr,hp,wr⟩=some (bif decide (P[j]=Q[j]) then .normal else .ret,⟨fr',hp,wr'⟩)∧(P[j]≠Q[j]→nth fr' 4 = .sc (.bool false)):=by
 obtain⟨r1,x1,x2⟩:=VE P j hi
 obtain⟨r2,y1,y2⟩:=VE Q j hj
 have hb:eqL (bO (qb P[j])) (bO (qb Q[j]))=decide (P[j]=Q[j]):=by
  rw[rC]
  exact decide_eq_decide.2 ⟨fun h=>pL (ByteArray.ext (Array.toList_inj.1 h)),fun h=>by rw[h]⟩
 simp only[iv] at h5
 by_cases h:P[j]=Q[j]
 ·rw[decide_eq_true h] at hb ⊢
  have hn : ¬ P[j]≠Q[j]:=fun e=>e h
  generalize qb P[j]=s at *
  generalize qb Q[j]=t at *
  simp[rtB,rtC,cI,f74,az,ae,aH,aq,ar,aF,ag,ah,an,aj,aC,aG,FzZ,ba,partOf,aa,af,ab,bf,h0,h00,h1,h5,x1,x2,y1,y2,iJ,gN,aV,number,FP.free,eo,hb,h]
 ·rw[decide_eq_false h] at hb ⊢
  generalize qb P[j]=s at *
  generalize qb Q[j]=t at *
  simp[rtB,rtC,cI,f74,az,ae,aH,aq,ar,aF,ag,ah,an,aj,aC,aG,FzZ,ba,au,partOf,aa,af,ab,bf,and_assoc,h0,h00,h1,h5,x1,x2,y1,y2,iJ,gN,aV,number,FP.free,eo,hb,h]
theorem aeH (L:Lst)(run:av)(k:Nat)(P Q:List Rat)(hl:P.length=Q.length):∃ fr wr,bh (CC L) run k 2 rtC ⟨entry 26 [qL P,qL Q],[],[]⟩=some ⟨fr,[],wr⟩∧fr.length=26∧nth fr 0=qL P∧nth fr 1=qL Q:=by
 obtain⟨e1,e2,e3⟩:=cb 24 (qL P) (qL Q)
 have l1:=xJ P
 have l2:=xJ Q
 rw[← hl] at l2
 generalize entry 26 [qL P,qL Q]=fr0 at *
 generalize qL P=p at *
 generalize qL Q=q at *
 simp[rtC,f74,bh,ae,aH,aq,ar,aF,ag,ah,an,aj,aC,aG,FzZ,ba,aw,bg,au,bM,aa,af,ab,bf,and_assoc,e1,e2,e3,l1,l2,ael]
theorem ahW(h0:fr.length=26):∃ fr',ae (CC L) run k (seq1 (seq1 (ai 2 rtC))) ⟨fr,hp,wr⟩=some (.normal,⟨fr',hp,wr⟩)∧nth fr' 5=iv 0:=by
 simp[iv,seq1,ai,rtC,f74,ae,aH,aq,ar,aF,ag,ah,an,aj,aC,aG,FzZ,au,aa,h0]
theorem ZQ(h0:fr.length=26):∃ st,ae (CC L) run k (ai 3 rtC) ⟨fr,hp,wr⟩=some (.ret,st)∧aY TT st.fr st.hp f74.results.toList=some [.sc (.bool true)]:=by
 simp[rtC,ai,f74,h0,ae,aH,aq,ar,aF,ag,ah,an,aj,aC,aG,FzZ,au,aa,aY]
def LZd:Lst:=[]
theorem agX:dt base.P LZd:=trivial
def Hl:Ψ→Option Ψ:=ctr (fun p:VV=>[qL p.1,qL p.2]) (fun p=>p.1.length=p.2.length∧p.1.length≤100) fun p=>[.sc (.bool (decide (p.1=p.2)))]
theorem R9:Ab.Spec base.P 74 Hl:=Ab.Spec.bL (C:=CC LZd) (cP agX) fun args rs h=>by
 obtain⟨⟨P,Q⟩,⟨hl,h9⟩,rfl,rfl⟩:=cX h
 dsimp only at hl h9
 obtain⟨fr1,wr1,a1,a2,a3,a4⟩:=aeH LZd (runK (CC LZd) 200) 200 P Q hl
 obtain⟨fr2,b1,b2⟩:=ahW LZd (runK (CC LZd) 200) 200 fr1 [] wr1 a2
 have K2:=aP _ b1
 obtain⟨e,st,c1,c2⟩:=Lp.R7 (C:=CC LZd) (run:=runK (CC LZd) 200) (k:=200) (l:=pf rtB) (body:=cI rtB) (m:=26) (B:=rtB) rfl (by kernel_rfl) (by kernel_rfl) (by kernel_rfl) ahD (n:=P.length) (j0:=0) (by omega) (by omega) (by omega)
  (J:=fun j _ _=>∀ i,i<j→P[i]?=Q[i]?) (R:=fun st=>nth st.fr 4 = .sc (.bool false)∧P≠Q) (fr0:=fr2) (hp0:=[]) (wr0:=wr1) (p:=qL P) (K2.len a2) (K2.at a3) (xJ P) b2
  (fun _ _ _ _ _ h=>h)
  (fun j fr hp wr _ hj hK hij hJ=>by
   obtain⟨fr',wr',x1,x2⟩:=ajR LZd (runK (CC LZd) 200) 200 fr hp wr P Q j hj (by omega) (hK.len (K2.len a2)) (hK.at (K2.at a3)) (hK.at (K2.at a4)) hij
   by_cases he:P[j]=Q[j]'(by omega)
   ·rw[show decide (P[j]=Q[j]'(by omega))=true by simpa using he] at x1
    refine⟨.normal,_,x1,.inl ⟨rfl,fun i hi => ?_⟩⟩
    by_cases hij:i=j
    ·subst hij
     rw[List.getElem?_eq_getElem hj,List.getElem?_eq_getElem (by omega),he]
    ·exact hJ i (by omega)
   ·rw[show decide (P[j]=Q[j]'(by omega))=false by simpa using he] at x1
    exact⟨.ret,_,x1,.inr ⟨rfl,x2 he,fun e=>he (by subst e;rfl)⟩⟩)
  (fun i hi=>by omega)
 rcases c2 with ⟨rfl,c2,c3⟩| ⟨rfl,c2,c3⟩
 ·obtain⟨st',d1,d2⟩:=ZQ LZd (runK (CC LZd) 200) 200 st.fr st.hp st.wr (c2.len (K2.len a2))
  have hx:ae (CC LZd) (runK (CC LZd) 200) 200 rtC ⟨entry 26 [qL P,qL Q],[],[]⟩=some (.ret,st'):=by
   have hs:ae (CC LZd) (runK (CC LZd) 200) 200 (.seq (seq1 (seq1 (ai 2 rtC))) (.block 0 (.loop rtB))) ⟨fr1,[],wr1⟩=some (.normal,st):=by rw[ao b1];exact c1
   rw[aU 2 a1,ahX,ao hs];exact d1
  have he:P=Q:=ext_getElem? fun i=>by
   by_cases hi:i<P.length
   ·exact c3 i hi
   ·rw[getElem?_eq_none (by omega),getElem?_eq_none (by omega)]
  exact⟨_,_,_,_,_,_,aZ sh rfl hx d2,rfl,by dsimp only;rw[decide_eq_true he];exact Wk.refl rfl,trivial⟩
 ·have hx:ae (CC LZd) (runK (CC LZd) 200) 200 rtC ⟨entry 26 [qL P,qL Q],[],[]⟩=some (.ret,st):=by
   have hs:ae (CC LZd) (runK (CC LZd) 200) 200 (.seq (seq1 (seq1 (ai 2 rtC))) (.block 0 (.loop rtB))) ⟨fr1,[],wr1⟩=some (.ret,st):=by rw[ao b1];exact c1
   rw[aU 2 a1,ahX]
   exact bK hs
  have hr:aY TT st.fr st.hp f74.results.toList=some [.sc (.bool false)]:=by simp[f74,aY,c2]
  exact⟨_,_,_,_,_,_,aZ sh rfl hx hr,rfl,by dsimp only;rw[decide_eq_false c3];exact Wk.refl rfl,trivial⟩
theorem ajE {L:Lst}(hL:bC L 74=fun a=>Hl (aK a))(run:av)(a b:P2):aA L run 74 [q2 a,q2 b] (.sc (.bool (decide (a=b)))):=by
 have h:=gi Hb (e:=fun p:VV=>[qL p.1,qL p.2]) (f:=fun p=>[.sc (.bool (decide (p.1=p.2)))]) hL (fun x y _ _ h=>by rw[Be h]) run ([a.1,a.2],[b.1,b.2]) ⟨rfl,by simp⟩ (fun _=>rfl) (tp _ _)
 have e:decide ([a.1,a.2]=[b.1,b.2])=decide (a=b):=by
  apply decide_eq_decide.2
  constructor
  ·intro h
   simp only[List.cons.injEq,and_true] at h
   exact Prod.ext h.1 h.2
  ·intro h;rw[h]
 dsimp only at h
 rw[e] at h
 exact h
theorem y9:base.F.get 73=some f73:=by kernel_rfl
theorem Dl:base.shared 73=false:=by kernel_rfl
theorem JV:base.F.get 71=some f71:=by kernel_rfl
theorem RG:base.shared 71=false:=by kernel_rfl
def AQ (c:List (List ByteArray))(e:Nat):Nat:=if e=0 then (match c with | []=>0 | p::_=>if p.length=2 then 0 else 10) else e
theorem AP(c:List (List ByteArray))(e:Nat) :
  (aA L run 22 [cE c] (iv e)→∃ st,ae (CC L) run k (f73.body.getD .skip) ⟨entry 19 [cE c],[],[]⟩=some (.ret,st)∧aY TT st.fr st.hp f73.results.toList=some [iv (AQ c e)]) ∧
  (aA L run 80 [cE c] (iv e)→∃ st,ae (CC L) run k (f71.body.getD .skip) ⟨entry 19 [cE c],[],[]⟩=some (.ret,st)∧aY TT st.fr st.hp f71.results.toList=some [iv (AQ c e)]):=by
 obtain⟨e1,e2⟩:=cV 18 (cE c)
 unfold aA iv AQ
 by_cases he:e=0
 ·subst he
  cases c with
  | nil =>
   have hl:dc (cE [])=some 0:=fm []
   generalize entry 19 [cE []]=fr0 at *
   generalize cE []=C at *
   constructor <;> intro g <;> simp[f73,f71,ae,aH,aq,ar,aF,ag,ah,aM,an,aj,aC,aG,FzZ,ba,aw,bg,au,bM,aa,af,ab,bf,e1,e2,g,hl,uCl,aY]
  | cons p c =>
   obtain⟨r,x1,x2⟩:=kG uCl (p::c) 0 (by simp)
   rw[getElem_cons_zero] at x2
   have hl:dc (cE (p::c))=some (c.length+1):=fm _
   have h0:0<c.length+1:=by omega
   replace x1:bc TT 23 (cE (p::c)) (.sc (.int .i64 0))=some (.iptr r):=x1
   generalize entry 19 [cE (p::c)]=fr0 at *
   generalize cE (p::c)=C at *
   generalize c.length+1=n at *
   have hp:=eF p
   obtain⟨b,hb⟩:∃ b,(((p.length:Nat):Int) != 2)=b:=⟨_,rfl⟩
   have hb':b = !decide (p.length=2):=by
    rw[← hb]
    by_cases h:p.length=2
    ·simp[h]
    ·rw[decide_eq_false h]
     have:((p.length:Nat):Int)≠2:=by omega
     simpa using this
   generalize pE p=P at *
   dsimp only
   cases hd:decide (p.length=2) with
   | true =>
    rw[hd] at hb'
    have h2:=of_decide_eq_true hd
    generalize p.length=m at *
    subst hb'
    constructor <;> intro g <;> simp[f73,f71,ae,aH,aq,ar,aF,ag,ah,aM,an,aj,aC,aG,FzZ,ba,aw,bg,au,bM,partOf,aa,af,ab,bf,e1,e2,g,hl,x1,x2,hp,h0,h2,uCl,uPt,aPt,sPt,aV,number,aY]
   | false =>
    rw[hd] at hb'
    have h2:=of_decide_eq_false hd
    generalize p.length=m at *
    subst hb'
    constructor <;> intro g <;> simp[f73,f71,ae,aH,aq,ar,aF,ag,ah,aM,an,aj,aC,aG,FzZ,ba,aw,bg,au,bM,partOf,aa,af,ab,bf,e1,e2,g,hl,x1,x2,hp,h0,hb,h2,uCl,uPt,aPt,sPt,aV,number,aY]
 ·have hb:(((e:Nat):Int) != 0)=true:=by simpa using he
  generalize entry 19 [cE c]=fr0 at *
  generalize cE c=C at *
  constructor <;> intro g <;> simp[f73,f71,ae,aH,aq,ar,aF,ag,ah,aM,an,aj,aC,aG,FzZ,ba,aw,bg,au,aa,af,ab,e1,e2,g,he,hb,aY]
def eL (c:List (List ByteArray)):Nat:=AQ c (chk c)
def uw:Ψ→Option Ψ:=ctr (fun c=>[cE c]) Fit fun c=>[iv (eL c)]
def LZe:Lst:=[(22,Jk),(80,Jk)]
theorem XP:dt base.P LZe:=⟨zL,W1,trivial⟩
theorem xl:Ab.Spec base.P 73 uw:=Ab.Spec.bL (C:=CC LZe) (cP XP) fun args rs h=>by
 obtain⟨c,hF,rfl,rfl⟩:=cX h
 obtain⟨st,c1,c2⟩:=(AP LZe (runK (CC LZe) 20) 20 c (chk c)).1 (ahh rfl _ c hF)
 exact⟨_,_,_,_,_,_,aZ y9 rfl c1 c2,rfl,Wk.refl rfl,trivial⟩
theorem AO:Ab.Spec base.P 71 uw:=Ab.Spec.bL (C:=CC LZe) (cP XP) fun args rs h=>by
 obtain⟨c,hF,rfl,rfl⟩:=cX h
 obtain⟨st,c1,c2⟩:=(AP LZe (runK (CC LZe) 20) 20 c (chk c)).2 (ajJ rfl _ c hF)
 exact⟨_,_,_,_,_,_,aZ JV rfl c1 c2,rfl,Wk.refl rfl,trivial⟩
theorem Cu {L:Lst}(hL:bC L 73=fun a=>uw (aK a))(run:av)(c:List (List ByteArray))(hF:Fit c):aA L run 73 [cE c] (iv (eL c)) :=
 gi Dl (e:=fun c=>[cE c]) (f:=fun c=>[iv (eL c)]) hL (fun x y _ _ h=>by rw[jN h]) run c hF (fun _=>rfl) (by simp only[aK,lO])
theorem JI {L:Lst}(hL:bC L 71=fun a=>uw (aK a))(run:av)(c:List (List ByteArray))(hF:Fit c):aA L run 71 [cE c] (iv (eL c)) :=
 gi RG (e:=fun c=>[cE c]) (f:=fun c=>[iv (eL c)]) hL (fun x y _ _ h=>by rw[jN h]) run c hF (fun _=>rfl) (by simp only[aK,lO])
theorem JS:base.F.get 130=some f130:=by kernel_rfl
theorem RC:base.shared 130=false:=by kernel_rfl
theorem adS (x:Bool)(a b:Rat):∃ r s,bc TT 84 (eR x [a,b]) (.sc (.int .i64 0))=some (.iptr r)∧bF r 4=some (rcs a)∧bc TT 84 (eR x [a,b]) (.sc (.int .i64 1))=some (.iptr s)∧bF s 4=some (rcs b):=by
 obtain⟨r,a1,a2⟩:=mz x [a,b] 0 (by simp)
 obtain⟨s,b1,b2⟩:=mz x [a,b] 1 (by simp)
 exact⟨r,s,a1,a2,b1,b2⟩
theorem aaH(A B P:PV)(u0 u1 v0 v1:Rat)(x y:PV)(s:Int)(g1:aA L run 60 [B,A] (eR true [u0,u1]))(g2:aA L run 60 [P,A] (eR true [v0,v1]))(g3:aA L run 56 [.agg (rcs u0),.agg (rcs v1)] x)(g4:aA L run 56 [.agg (rcs u1),.agg (rcs v0)] y)(g5:aA L run 129 [x,y] (Ab.bJ s)) :
  ∃ st,ae (CC L) run k (f130.body.getD .skip) ⟨entry 30 [A,B,P],[],[]⟩=some (.ret,st)∧aY TT st.fr st.hp f130.results.toList=some [Ab.bJ s]:=by
 obtain⟨e1,e2,e3,e4⟩:=Cc 27 A B P
 generalize entry 30 [A,B,P]=fr0 at *
 obtain⟨r1,r2,a1,a2,a3,a4⟩:=adS true u0 u1
 obtain⟨q1,q2,b1,b2,b3,b4⟩:=adS true v0 v1
 unfold aA at *
 generalize eR true [u0,u1]=U at *
 generalize eR true [v0,v1]=V at *
 simp[f130,ae,aH,aq,ar,aF,ag,ah,aM,an,aj,aC,aG,FzZ,au,partOf,aa,af,ab,bf,e1,e2,e3,e4,a1,a2,a3,a4,b1,b2,b3,b4,g1,g2,g3,g4,g5,aR,sR,aV,number,FP.free,aY]
def v2 (x:Bool)(p:P2):PV:=eR x [p.1,p.2]
def e3v (p:P23):Ψ:=[v2 false p.1,v2 false p.2.1,v2 false p.2.2]
theorem BF {k:Nat}{p:P2}(h:Rb2 k p):RbL k [p.1,p.2]:=fun z hz=>by
 simp only[mem_cons,not_mem_nil,or_false] at hz
 rcases hz with rfl | rfl
 ·exact h.1
 ·exact h.2
theorem Bg {p q:P2}(hp:Rb2 1000 p)(hq:Rb2 1000 q)(h:v2 false p=v2 false q):p=q:=by
 have:=Gz (BF hp) (BF hq) (by omega) h
 simp only[List.cons.injEq,and_true] at this
 exact Prod.ext this.1 this.2
def LZg:Lst:=[(60,TM),(56,qG),(129,lv)]
theorem agV:dt base.P LZg:=⟨N5,oI,jW,trivial⟩
def aaF:Ψ→Option Ψ:=ctr e3v (afn 1000) fun p=>[Ab.bJ (fk p.1 p.2.1 p.2.2)]
theorem Ed:Ab.Spec base.P 130 aaF:=Ab.Spec.bL (C:=CC LZg) (cP agV) fun args rs h=>by
 obtain⟨⟨a,b,p⟩,⟨ha,hb,hp⟩,rfl,rfl⟩:=cX h
 dsimp only at ha hb hp
 obtain⟨st,c1,c2⟩:=aaH LZg (runK (CC LZg) 200) 200 (v2 false a) (v2 false b) (v2 false p) (b.1 - a.1) (b.2 - a.2) (p.1 - a.1) (p.2 - a.2) _ _ _
  (XY rfl _ false false [b.1,b.2] [a.1,a.2] (BF hb) (BF ha) (by omega) (by omega) rfl (by simp))
  (XY rfl _ false false [p.1,p.2] [a.1,a.2] (BF hp) (BF ha) (by omega) (by omega) rfl (by simp))
  (XW rfl _ (u:=some (b.1 - a.1)) (v:=some (p.2 - a.2)) (hb.1.sub ha.1) (hp.2.sub ha.2) (by omega))
  (XW rfl _ (u:=some (b.2 - a.2)) (v:=some (p.1 - a.1)) (hb.2.sub ha.2) (hp.1.sub ha.1) (by omega))
  (Cr rfl _ (u:=some ((b.1 - a.1)*(p.2 - a.2))) (v:=some ((b.2 - a.2)*(p.1 - a.1))) ((hb.1.sub ha.1).mul (hp.2.sub ha.2)) ((hb.2.sub ha.2).mul (hp.1.sub ha.1)) (by omega))
 exact⟨_,_,_,_,_,_,aZ JS rfl c1 c2,rfl,Wk.refl rfl,trivial⟩
theorem PO:base.F.get 124=some f124:=by kernel_rfl
theorem Y4:base.shared 124=false:=by kernel_rfl
theorem mU:dm TT 102=some 2:=by kernel_rfl
theorem y6:ia TT 102=some true:=by kernel_rfl
theorem ko:und TT 100=some (.slice 102):=by kernel_rfl
theorem Gw:ef TT 102=some [.sc (.slice none 0 0),.sc (.int .i64 0)]:=by kernel_rfl
theorem fa0 (id off:Nat):bN TT 102 (.ptr id off) 0=some (.ptr id off):=by
 have h:bN TT 102 (.ptr id off) 0=some (.ptr id (off+0)):=by kernel_rfl
 exact h
theorem fa1 (id off:Nat):bN TT 102 (.ptr id off) 1=some (.ptr id (off+1)):=by kernel_rfl
def eC (x:Bool)(z:VN):Ψ:=[v2 x z.1,iv z.2]
def bfC:Code:=f124.body.getD .skip
def bfB:Code:=(az bfC).getD .skip
def BfF (fr:Ψ)(X:List Rat)(i:Nat):Prop:=fr.length=32∧nth fr 2 = .ptr 0 0∧nth fr 3 = .ptr 1 0∧nth fr 9=eR false X∧nth fr 10=iv 2∧nth fr 11=iv i
theorem FZ(X Y:List Rat)(m n i:Nat)(c:Int)(hi:i<X.length)(hi2:i<2)(hj:i<Y.length)(h:BfF fr X i)(hn:2≤hp.length)(hb0:aX hp 0=some ⟨.live,[eR false X,iv m]⟩)(hb1:aX hp 1=some ⟨.live,[eR false Y,iv n]⟩)(g:aA L run 129 [rv (some X[i]),rv (some Y[i])] (.sc (.int .i64 c))) :
  ∃ fr' hp' wr',ae (CC L) run k bfB ⟨fr,hp,wr⟩=some (bif c != 0 then .ret else .normal,⟨fr',hp',wr'⟩)∧((c != 0)=true→nth fr' 4 = .sc (.int .i64 c))∧((c != 0)=false→BfF fr' X (i+1))∧2≤hp'.length∧aX hp' 0=some ⟨.live,[eR false X,iv m]⟩∧aX hp' 1=some ⟨.live,[eR false Y,iv n]⟩:=by
 unfold BfF at *
 obtain⟨h0,h2,h3,h9,h10,h11⟩:=h
 obtain⟨r,x1,x2⟩:=mz false X i hi
 obtain⟨r',y1,y2⟩:=mz false Y i hj
 have hw:=bE i (by omega)
 have hx:=al1 hp rz
 have hx1:=qU rz (rcs X[i]) (by rw[dh.len];rfl)
 have hx2:=al2 hp rz ⟨.live,rcs X[i]⟩
 have hx3:=(al3 hp rz ⟨.live,rcs X[i]⟩ 0 (by omega)).trans hb0
 have hx4:=(al3 hp rz ⟨.live,rcs X[i]⟩ 1 (by omega)).trans hb1
 have hx5:=lp (rcs X[i]) (dh.len _)
 have hx6:=al4 hp rz ⟨.live,rcs X[i]⟩
 have hokx:=dh.okc X[i]
 have hlx:=dh.len X[i]
 rw[jE,jE] at g
 unfold aA at g
 have hc1:=A1 false X
 have hc2:=A1 false Y
 generalize rcs X[i]=cx at *
 generalize rcs Y[i]=cy at *
 generalize eR false X=PX at *
 generalize eR false Y=PY at *
 simp only[iv] at h10 h11
 have zR':=zRz
 have hi2':(i:Int)<2:=by omega
 obtain⟨u,hu⟩:∃ u,(c != 0)=u:=⟨_,rfl⟩
 have hn1:2≤hp.length+1:=by omega
 cases u <;>
 simp[iv,bfB,bfC,f124,az,ae,aH,aq,ar,aF,ag,ah,aM,an,aj,aC,aG,FzZ,ba,aw,bg,au,partOf,aa,af,ab,bf,and_assoc,bp,h0,h2,h3,h9,h10,h11,x1,x2,y1,y2,g,hx,hx1,hx2,hx3,hx4,hx5,hx6,hokx,hlx,hw,hu,hi2',hn1,fa0,aV,aR,sR,adp,ZL,zR',bz,number,FP.free,cC,FP.apart]
def Fr (n:Nat)(w:Ω):Prop:=∀ i ∈ w,n≤i
theorem Ca (n:Nat):Fr n []:=fun _ h=>by cases h
theorem oX {n:Nat} : ∀ {l w:Ω},Fr n (aG l w) ↔ (∀ i ∈ l,n≤i)∧Fr n w
 | [],w=>by simp[aG]
 | i::l,w=>by
  unfold aG
  cases h:w.contains i with
  | true =>
   have h:i ∈ w:=by simpa using h
   rw[cond_true,oX]
   simp only[mem_cons,forall_eq_or_imp]
   exact⟨fun ⟨a,b⟩=>⟨⟨b i h,a⟩,b⟩,fun ⟨⟨_,a⟩,b⟩=>⟨a,b⟩⟩
  | false =>
   rw[cond_false,oX]
   unfold Fr
   simp only[mem_cons,forall_eq_or_imp]
   exact⟨fun ⟨a,b,c⟩=>⟨⟨b,a⟩,c⟩,fun ⟨⟨b,a⟩,c⟩=>⟨a,b,c⟩⟩
theorem Fr.old {n:Nat}{w:Ω}(h:Fr n w):lC n w=[]:=by
 cases e:lC n w with
 | nil=>rfl
 | cons i l =>
  have:=nN (n:=n) (l:=w) (i:=i) (by rw[e];simp)
  have:=h i this.1
  omega
theorem Fr.mono {n m:Nat}{w:Ω}(h:Fr n w)(hm:m≤n):Fr m w:=fun i hi=>Nat.le_trans hm (h i hi)
theorem qB {L:Lst}{run:av}{g:Nat}{args:Ψ}{r:PV}{hp hp':Θ}{w:Ω}(hs:base.shared g=true)(hr:run g args hp=some ([r],hp',w))(hi:r.cG=true)(hg:Hgr hp hp')(hw:Fr hp.length w)(dr:Bool):bS (CC L) run dr hp g args=some (r,hp,⟨[],[],true,true⟩):=by
 have:=RM (L:=L) hs hr hi hg.1 hg.2 (by rw[hw.old];intro i h;cases h) dr
 rw[hw.old] at this
 exact this
theorem al5(a b:Ψ):aX (bd (bd hp a) b) hp.length=some ⟨.live,a⟩:=by
 rw[bP,if_neg (by simp[bd]),al1]
theorem Hgr.two(a b:Ψ):Hgr hp (bd (bd hp a) b):=(Hgr.new hp a).trans (Hgr.new _ b)
theorem adY(a:Ψ):hp.length≤(bd hp a).length:=by simp[bd]
theorem Gl:base.F.get 128=some f128:=by kernel_rfl
theorem MV:base.shared 128=true:=by kernel_rfl
theorem X0:base.F.get 127=some f127:=by kernel_rfl
theorem aev:base.shared 127=true:=by kernel_rfl
theorem JU:base.F.get 126=some f126:=by kernel_rfl
theorem RE:base.shared 126=true:=by kernel_rfl
theorem V6(x y:Rat)(c:Int)(g:aA L run 129 [rv (some x),rv (some y)] (.sc (.int .i64 c))) :
  ∃ st,ae (CC L) run k (f128.body.getD .skip) ⟨entry 9 [rv (some x),rv (some y)],hp,[]⟩=some (.ret,st)∧Hgr hp st.hp∧Fr hp.length st.wr∧aY TT st.fr st.hp f128.results.toList=some [.sc (.bool (c == 0))]:=by
 rw[jE,jE] at *
 obtain⟨e1,e2,e3⟩:=cb 7 (.agg (rcs x)) (.agg (rcs y))
 generalize entry 9 [.agg (rcs x),.agg (rcs y)]=fr0 at *
 have b1:=al5 hp (rcs x) (rcs y)
 have b2:=al1 (bd hp (rcs x)) (rcs y)
 have b3:=Hgr.two hp (rcs x) (rcs y)
 have b4:=adY hp (rcs x)
 have t1:=lp (rcs x) (dh.len _)
 have t2:=lp (rcs y) (dh.len _)
 unfold aA at g
 generalize rcs x=cx at *
 generalize rcs y=cy at *
 simp[f128,ae,aH,aq,ar,aF,ag,ah,aM,an,aj,aC,FzZ,ba,aw,bg,au,partOf,aa,af,ab,bf,bp,rY,e1,e2,e3,b1,b2,b3,b4,t1,t2,g,oX,Ca,aV,bz,aR,sR,aY]
theorem V7 (L:Lst)(k:Nat)(x y:Rat)(c:Int)(g:aA L (runK (CC L) k) 129 [rv (some x),rv (some y)] (.sc (.int .i64 c)))(dr:Bool)(hp:Θ):bS (CC L) (runK (CC L) (k+1)) dr hp 128 [rv (some x),rv (some y)]=some (.sc (.bool (c == 0)),hp,⟨[],[],true,true⟩):=by
 obtain⟨st,x1,x2,x3,x4⟩:=V6 L (runK (CC L) k) k hp x y c g
 exact qB MV (gw Gl rfl x1 x4) rfl x2 x3 dr
def eqC:Code:=f127.body.getD .skip
def eqB:Code:=(az eqC).getD .skip
def EqF (fr:Ψ)(f1 f2:Bool)(X Y:List Rat)(i:Nat):Prop:=fr.length=32∧nth fr 1=eR f2 Y∧nth fr 2 = .sc (.func (.func 128) ⟨[]⟩ ⟨[]⟩)∧nth fr 15=eR f1 X∧nth fr 16=iv 2∧nth fr 17=iv i
theorem Fp(f1 f2:Bool)(X Y:List Rat)(i n:Nat)(u:Bool)(hi:i<X.length)(hi2:i<2)(hj:i<Y.length)(h:EqF fr f1 f2 X Y i)(hn:n≤hp.length)(hw:Fr n wr)(g:∀ dr hp,bS (CC L) run dr hp 128 [rv (some X[i]),rv (some Y[i])]=some (.sc (.bool u),hp,⟨[],[],true,true⟩)) :
  ∃ fr' hp' wr',ae (CC L) run k eqB ⟨fr,hp,wr⟩=some (bif u then .normal else .ret,⟨fr',hp',wr'⟩)∧(u=false→nth fr' 6 = .sc (.bool false))∧(u=true→EqF fr' f1 f2 X Y (i+1))∧Hgr hp hp'∧Fr n wr':=by
 unfold EqF at *
 obtain⟨h0,h1,h2,h15,h16,h17⟩:=h
 obtain⟨r,x1,x2⟩:=mz f1 X i hi
 obtain⟨r',y1,y2⟩:=mz f2 Y i hj
 have hwr:=bE i (by omega)
 have a1:=al1 hp rz
 have o1:=qU rz (rcs X[i]) (by rw[dh.len];rfl)
 have o2:=qU rz (rcs Y[i]) (by rw[dh.len];rfl)
 have G1:=Hgr.abB hp rz ⟨.live,rcs X[i]⟩
 have c1:=al2 hp rz ⟨.live,rcs X[i]⟩
 have l1:=al4 hp rz ⟨.live,rcs X[i]⟩
 obtain⟨hp1,e1⟩:∃ h,cF (bd hp rz) hp.length ⟨.live,rcs X[i]⟩=h:=⟨_,rfl⟩
 rw[e1] at G1 c1 l1
 have a2:=al1 hp1 rz
 have G2:=Hgr.abB hp1 rz ⟨.live,rcs Y[i]⟩
 have c2:=al2 hp1 rz ⟨.live,rcs Y[i]⟩
 obtain⟨hp2,e2⟩:∃ h,cF (bd hp1 rz) hp1.length ⟨.live,rcs Y[i]⟩=h:=⟨_,rfl⟩
 rw[e2] at G2 c2
 have c3:=(G2.2 hp.length (by omega)).trans c1
 have G3:=G1.trans G2
 have n1:n≤hp1.length:=by omega
 have t1:=lp (rcs X[i]) (dh.len _)
 have t2:=lp (rcs Y[i]) (dh.len _)
 have ok1:=dh.okc X[i]
 have k1:=dh.len X[i]
 have ok2:=dh.okc Y[i]
 have k2:=dh.len Y[i]
 rw[jE,jE] at g
 generalize rcs X[i]=cx at *
 generalize rcs Y[i]=cy at *
 generalize eR f1 X=PX at *
 generalize eR f2 Y=PY at *
 simp only[iv] at h16 h17
 have zR':=zRz
 have hi2':(i:Int)<2:=by omega
 have hl : ¬ hp1.length=hp.length:=by omega
 cases u <;>
 simp[iv,eqB,eqC,f127,az,ae,aH,aq,ar,aF,ag,ah,aM,an,aj,aC,FzZ,ba,aw,bg,au,partOf,unP,aa,af,ab,bf,and_assoc,bp,rY,h0,h1,h2,h15,h16,h17,x1,x2,y1,y2,g,a1,a2,o1,o2,e1,e2,c2,c3,G3,n1,hn,hw,t1,t2,ok1,ok2,k1,k2,hi2',hwr,oX,aV,bz,aR,sR,zR']
end Go.Proofs.YtjdmodeenbdfpaaGreat
end
