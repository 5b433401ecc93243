/- Contracts of fractions, clouds and predicates, part 38 of the proof; each lemma states its own conditions. -/
import Derived.Test.YtjdmodeenbdfpaaGreatT37
set_option linter.unusedSimpArgs false
set_option linter.unusedVariables false
noncomputable section
namespace Go.Proofs.YtjdmodeenbdfpaaGreat
open Go Go.Ab List Tryz
attribute [local simp] FzZ aA aC aF aG aH aL aU aV aa ab ae af ag ai aj an ao aq aw az bO bc bd bj iv partOf
variable(L:Lst)(run:ar)(k:Nat)(fr:List PV)(hp:List Blk)(wr:List Nat)
theorem JC:base.F.get 81=some f81:=by kernel_rfl
theorem RB:base.shared 81=false:=by kernel_rfl
theorem Cq:base.F.get 46=some f46:=by kernel_rfl
theorem GL:base.shared 46=false:=by kernel_rfl
def iE (c:List (List ByteArray)):Nat:=if chk c=0 then hdL c else 0
def A4:List PV→Option (List PV):=ctr (fun c=>[cE c]) Fit fun c=>[iv (iE c)]
theorem neI (e:Nat):((e:Int) != 0) = !decide (e=0):=by
 by_cases h:e=0
 ·subst h;rfl
 ·have:((e:Int) != 0)=true:=by simp;omega
  rw[this,decide_eq_false h];rfl
theorem acR(c:List (List ByteArray))(g:au L run 80 [cE c] (iv (chk c))) :
  ∃ st,af (CC L) run k (f81.body.getD .skip) ⟨entry 15 [cE c],[],[]⟩=some (.ret,st)∧aU TT st.fr st.hp f81.results.toList=some [iv (iE c)]:=by
 obtain⟨e1,e2⟩:=cW 14 (cE c)
 generalize entry 15 [cE c]=fr0 at *
 unfold au at g
 unfold iE
 have hne:=neI (chk c)
 cases hc:c with
 | nil =>
  have hl:dn (cE [])=some 0:=rfl
  rw[hc] at e2
  have h0:(if chk []=0 then hdL [] else 0)=0:=by split <;> rfl
  rw[h0]
  simp[f81,e1,e2,hl,uCl,undef]
 | cons p r =>
  rw[← hc]
  obtain⟨q,x1,x2⟩:=gi uCl c 0 (by rw[hc];simp)
  have hp:c[0]'(by rw[hc];simp)=p:=by subst hc;rfl
  rw[hp] at x2
  rw[show (((0:Nat):Int))=(0:Int) from rfl] at x1
  have hh:hdL c=p.length:=by rw[hc];rfl
  have hl:=gD c
  have hl0:((c.length:Int) == 0)=false:=by rw[beq_eq_false_iff_ne,hc];simp;omega
  have hlp:=fY p
  rw[hh]
  generalize chk c=e at *
  simp only[iv] at g ⊢
  have hcl : ¬ c.length=0:=by rw[hc];simp
  have hcn : ¬ c=[]:=by rw[hc];simp
  by_cases h:e=0
  ·subst h
   simp[f81,e1,e2,hl,hl0,hlp,uCl,uPt,g,x1,x2,aPt,sPt]
  ·have hne2:((e:Int) != 0)=true:=by rw[hne,decide_eq_false h];rfl
   simp[f81,e1,e2,hl,hl0,uCl,g,hne2,h]
theorem Sl(c:List (List ByteArray))(g:au L run 22 [cE c] (iv (chk c))) :
  ∃ st,af (CC L) run k (f46.body.getD .skip) ⟨entry 15 [cE c],[],[]⟩=some (.ret,st)∧aU TT st.fr st.hp f46.results.toList=some [iv (iE c)]:=by
 obtain⟨e1,e2⟩:=cW 14 (cE c)
 generalize entry 15 [cE c]=fr0 at *
 unfold au at g
 unfold iE
 have hne:=neI (chk c)
 cases hc:c with
 | nil =>
  have hl:dn (cE [])=some 0:=rfl
  rw[hc] at e2
  have h0:(if chk []=0 then hdL [] else 0)=0:=by split <;> rfl
  rw[h0]
  simp[f46,e1,e2,hl,uCl,undef]
 | cons p r =>
  rw[← hc]
  obtain⟨q,x1,x2⟩:=gi uCl c 0 (by rw[hc];simp)
  have hp:c[0]'(by rw[hc];simp)=p:=by subst hc;rfl
  rw[hp] at x2
  rw[show (((0:Nat):Int))=(0:Int) from rfl] at x1
  have hh:hdL c=p.length:=by rw[hc];rfl
  have hl:=gD c
  have hl0:((c.length:Int) == 0)=false:=by rw[beq_eq_false_iff_ne,hc];simp;omega
  have hlp:=fY p
  rw[hh]
  generalize chk c=e at *
  simp only[iv] at g ⊢
  have hcl : ¬ c.length=0:=by rw[hc];simp
  have hcn : ¬ c=[]:=by rw[hc];simp
  by_cases h:e=0
  ·subst h
   simp[f46,e1,e2,hl,hl0,hlp,uCl,uPt,g,x1,x2,aPt,sPt]
  ·have hne2:((e:Int) != 0)=true:=by rw[hne,decide_eq_false h];rfl
   simp[f46,e1,e2,hl,hl0,uCl,g,hne2,h]
def LR3:Lst:=(22,IQ)::LR2
theorem XE:dw base.P LR3:=⟨zN,XG⟩
theorem Pu:Ab.Spec base.P 81 A4:=Ab.Spec.bM (C:=CC LR3) (cP XE) fun args rs h=>by
 obtain⟨c,hF,rfl,rfl⟩:=cN h
 obtain⟨st,x1,x2⟩:=acR LR3 (runK (CC LR3) 1) 1 c (adB rfl _ c hF)
 exact⟨2,_,_,_,_,_,aP JC rfl x1 x2,rfl,Wk.refl rfl,trivial⟩
theorem He:Ab.Spec base.P 46 A4:=Ab.Spec.bM (C:=CC LR3) (cP XE) fun args rs h=>by
 obtain⟨c,hF,rfl,rfl⟩:=cN h
 obtain⟨st,x1,x2⟩:=Sl LR3 (runK (CC LR3) 1) 1 c (XQ rfl _ c hF)
 exact⟨2,_,_,_,_,_,aP Cq rfl x1 x2,rfl,Wk.refl rfl,trivial⟩
theorem ahq {L:Lst}(hL:bu L 81=fun a=>A4 (aJ a))(run:ar)(c:List (List ByteArray))(hF:Fit c):au L run 81 [cE c] (iv (iE c)) :=
 fH RB (e:=fun c=>[cE c]) (f:=fun c=>[iv (iE c)]) hL (fun x y _ _ h=>by rw[rX h]) run c hF (nE · c) (ma c)
theorem acY {L:Lst}(hL:bu L 46=fun a=>A4 (aJ a))(run:ar)(c:List (List ByteArray))(hF:Fit c):au L run 46 [cE c] (iv (iE c)) :=
 fH GL (e:=fun c=>[cE c]) (f:=fun c=>[iv (iE c)]) hL (fun x y _ _ h=>by rw[rX h]) run c hF (nE · c) (ma c)
def eT (V:List Rat):List PV:=[dp true V]
theorem acn:El 1 eT where
 len:=fun _=>rfl
 okc:=fun _=>rfl
 idf:=fun _=>rfl
 sn:=fun _ _ _=>rfl
def mT (M:List (List Rat)):PV:=.imm M.length false (M.flatMap eT)
def qC (X:List (List Rat)):PV:=cE (X.map fun P=>P.map qb)
def aN (l:List Nat):PV:=aE (l.map Int.ofNat)
def dj (X:List (List Rat))(l:List Nat):List (List Rat):=l.tail.map fun i=>dy (X.getD i []) (X.getD (l.headD 0) [])
theorem yE:base.F.get 51=some f51:=by kernel_rfl
theorem Dc:base.shared 51=false:=by kernel_rfl
theorem kO:und TT 80=some (.slice 84):=by kernel_rfl
theorem aiW:ie TT 84=some 24:=by kernel_rfl
theorem adD:eK TT 84=some [.sc (.slice none 0 0)]:=by kernel_rfl
def dfC:Code:=f51.body.getD .skip
def dfB:Code:=(aC dfC).getD .skip
def DfF (fr:List PV)(X:List (List Rat))(l:List Nat)(V:List Rat)(i:Nat):Prop:=fr.length=35∧nth fr 0=qC X∧nth fr 5=dp true V∧nth fr 17=aN l∧nth fr 18=iv l.length∧nth fr 19=iv i
theorem agB(X:List (List Rat))(l:List Nat)(V:List Rat)(h:DfF fr X l V l.length) :
  ∃ fr',af (CC L) run k dfB ⟨fr,hp,wr⟩=some (.exit 0,⟨fr',hp,wr⟩)∧fr'.length=35∧nth fr' 6=nth fr 6:=by
 obtain⟨h0,h1,h5,h17,h18,h19⟩:=h
 simp only[iv] at h18 h19
 simp[dfB,dfC,f51,h0,h18,h19]
theorem adk (v:PV)(hv:v.cells?=some [v]):eL TT 80 1 [(0,v)]=some (1,[v]):=by
 simp[eL,kO,pM,adD,rep,dA,hv,cq]
theorem ajm(v:PV):ew hp 1 (.imm 1 true [v])=some (1,[v],[]):=by simp[ew]
theorem Wq(X:List (List Rat))(l:List Nat)(V:List Rat)(i:Nat)(out:List (List Rat))(hi:i<l.length)(h9:l.length≤1000)(ho9:out.length≤1000)(hX:l[i]<X.length)(g1:au L run 59 [qL X[l[i]]] (dp true X[l[i]]))(g2:au L run 60 [dp true X[l[i]],dp true V] (dp true (dy X[l[i]] V)))(hO:fe 1 eT 0 hp out (nth fr 6))(h:DfF fr X l V i) :
  ∃ fr' hp' wr',af (CC L) run k dfB ⟨fr,hp,wr⟩=some (.normal,⟨fr',hp',wr'⟩)∧DfF fr' X l V (i+1)∧fe 1 eT 0 hp' (out++[dy X[l[i]] V]) (nth fr' 6):=by
 obtain⟨h0,h1,h5,h17,h18,h19⟩:=h
 have hi':i<(l.map Int.ofNat).length:=by simpa using hi
 obtain⟨r,x1,x2⟩:=nm (l.map Int.ofNat) i hi'
 have hX':l[i]<(X.map fun P=>P.map qb).length:=by simpa using hX
 obtain⟨r',y1,y2⟩:=gi uCl (X.map fun P=>P.map qb) l[i] hX'
 have e1:pE (X.map fun P=>P.map qb)[l[i]]=qL X[l[i]]:=by rw[getElem_map];rfl
 rw[e1] at y2
 rw[getElem_map] at x2
 rw[show aE (l.map Int.ofNat)=aN l from rfl] at x1
 rw[show cE (X.map fun P=>P.map qb)=qC X from rfl] at y1
 obtain⟨p',hp',fp,a1,a2,-⟩:=hO.app acn [dy X[l[i]] V] (by simp) (by simp;omega)
 have hw:=bH i (by omega)
 have hlv:=adk (dp true (dy X[l[i]] V)) rfl
 have hrd:=fun hp=>ajm hp (dp true (dy X[l[i]] V))
 have e2:[dy X[l[i]] V].flatMap eT=[dp true (dy X[l[i]] V)]:=rfl
 rw[e2] at a1
 unfold au at g1 g2
 have hid:(dp true (dy X[l[i]] V)).cO=true:=rfl
 have hok:=HX true (dy X[l[i]] V)
 generalize dp true (dy X[l[i]] V)=v at *
 generalize dy X[l[i]] V=W at *
 generalize dp true X[l[i]]=u at *
 generalize qL X[l[i]]=q at *
 generalize l[i]=j at *
 rw[show Int.ofNat j=(j:Int) from rfl] at x2
 rw[show [W].length=1 from rfl] at a1
 simp only[iv] at h18 h19
 simp[DfF,dfB,dfC,f51,and_assoc,bh,h0,h1,h5,h17,h18,h19,hi,x1,x2,y1,y2,g1,g2,hlv,hrd,hid,hok,hw,aI,sI,aPt,sPt,bU,kO,pM,aiW,adD,cg,a1,a2]
theorem B5 (L:Lst)(run:ar)(k:Nat)(X:List (List Rat))(l:List Nat)(V:List Rat)(h9:l.length≤1000)(hl:∀ i ∈ l,∃ h:i<X.length,au L run 59 [qL X[i]] (dp true X[i])∧au L run 60 [dp true X[i],dp true V] (dp true (dy X[i] V))):∀ (n i:Nat) (fr:List PV) (hp:List Blk) (wr:List Nat) (out:List (List Rat)),i+n=l.length→out=(l.take i).map (fun j=>dy (X.getD j []) V)→fe 1 eT 0 hp out (nth fr 6)→DfF fr X l V i →
  ∃ fr' hp' wr',cu (af (CC L) run k dfB) (n+1) ⟨fr,hp,wr⟩=some (.exit 0,⟨fr',hp',wr'⟩)∧fr'.length=35∧fe 1 eT 0 hp' (l.map (fun j=>dy (X.getD j []) V)) (nth fr' 6)
 | 0,i,fr,hp,wr,out,hin,ho,hO,h=>by
  have e:i=l.length:=by omega
  subst e
  obtain⟨fr',q1,q2,q3⟩:=agB L run k fr hp wr X l V h
  refine⟨fr',hp,wr,bD q1,q2,?_⟩
  rw[take_length] at ho
  rw[q3,← ho]
  exact hO
 | n+1,i,fr,hp,wr,out,hin,ho,hO,h=>by
  have hi:i<l.length:=by omega
  obtain⟨hX,g1,g2⟩:=hl l[i] (getElem_mem hi)
  obtain⟨fr1,hp1,wr1,q1,q2,q3⟩:=Wq L run k fr hp wr X l V i out hi h9 (by rw[ho];simp;omega) hX g1 g2 hO h
  obtain⟨fr',hp',wr',s1,s2⟩:=B5 L run k X l V h9 hl n (i+1) fr1 hp1 wr1 _ (by omega) (by
   rw[ho,take_succ_eq_append_getElem hi,map_append,map_cons,map_nil,getD_eq_getElem?_getD,getElem?_eq_getElem hX];rfl) q3 q2
  exact⟨fr',hp',wr',by rw[ct q1];exact s1,s2⟩
def Ws:Code:=seq1 (seq1 (ah 3 dfC))
theorem Wp:ah 3 dfC = .seq (.seq Ws (.block 0 (.loop dfB))) (ah 4 dfC):=rfl
theorem ahN(j:Nat)(l:List Nat):dq TT hp 24 (aN (j::l)) (some (.sc (.int .i64 1))) none none=some (aN l):=by
 have h1:aN (j::l) = .imm (l.length+1) false (.sc (.int .i64 (Int.ofNat j))::(l.map Int.ofNat).flatMap ei):=by
  simp[aN,aE,fg,ei]
 have h2:aN l = .imm l.length false ((l.map Int.ofNat).flatMap ei):=by simp[aN,aE,fg]
 have h3:((l.map Int.ofNat).flatMap ei).length=l.length:=by
  have:=E7.toEl.length (l.map Int.ofNat)
  simpa using this
 rw[h1,h2]
 have ht:bF ((l.map Int.ofNat).flatMap ei) l.length=some ((l.map Int.ofNat).flatMap ei):=by
  rw[dh (by omega),← h3,take_length]
 simp[dq,jA,gQ,sI,bnd,fk,acU,gE,h3,br,ht]
theorem Wr (L:Lst)(run:ar)(k:Nat)(X:List (List Rat))(j:Nat)(l:List Nat)(hj:j<X.length)(g:au L run 59 [qL X[j]] (dp true X[j])) :
  ∃ fr fr',aX (CC L) run k 3 dfC ⟨entry 35 [qC X,aN (j::l)],[],[]⟩=some ⟨fr,[],[]⟩∧af (CC L) run k Ws ⟨fr,[],[]⟩=some (.normal,⟨fr',[],[]⟩)∧DfF fr' X l X[j] 0∧nth fr' 6 = .sc (.slice none 0 0):=by
 obtain⟨e1,e2,e3⟩:=cn 33 (qC X) (aN (j::l))
 generalize entry 35 [qC X,aN (j::l)]=fr0 at *
 have hX':j<(X.map fun P=>P.map qb).length:=by simpa using hj
 obtain⟨r',y1,y2⟩:=gi uCl (X.map fun P=>P.map qb) j hX'
 obtain⟨r,x1,x2⟩:=nm ((j::l).map Int.ofNat) 0 (by simp)
 have e4:pE (X.map fun P=>P.map qb)[j]=qL X[j]:=by rw[getElem_map];rfl
 rw[e4] at y2
 rw[show ((j::l).map Int.ofNat)[0]'(by simp)=(j:Int) from rfl] at x2
 rw[show aE ((j::l).map Int.ofNat)=aN (j::l) from rfl,show (((0:Nat):Int))=(0:Int) from rfl] at x1
 rw[show cE (X.map fun P=>P.map qb)=qC X from rfl] at y1
 have hsl:=fun hp=>ahN hp j l
 have hl:dn (aN l)=some l.length:=by simp[aN,aE,fg,dn]
 unfold au at g
 obtain⟨fr,a1,a2,a3,a4,a5,a6⟩:∃ fr,aX (CC L) run k 3 dfC ⟨fr0,[],[]⟩=some ⟨fr,[],[]⟩∧fr.length=35∧nth fr 0=qC X∧nth fr 1=aN (j::l)∧nth fr 5=dp true X[j]∧nth fr 6 = .sc (.slice none 0 0):=by
  simp[dfC,f51,aX,e1,e2,e3,x1,x2,y1,y2,g,aI,sI,aPt,sPt]
 refine⟨fr,?_⟩
 rw[a1]
 obtain⟨cs,hal⟩:∃ cs,aN (j::l) = .imm (l.length+1) false cs:=⟨_,by simp only[aN,aE,fg,length_map,length_cons];rfl⟩
 rw[hal] at a4
 simp only[hal] at hsl
 simp[DfF,Ws,seq1,ah,dfC,f51,a2,a3,a4,a5,a6,and_assoc,hsl,hl,jA]
theorem Lr(p:PV)(h0:fr.length=35)(h3:nth fr 6=p):∃ st,af (CC L) run k (ah 4 dfC) ⟨fr,hp,wr⟩=some (.ret,st)∧st.hp=hp∧aU TT st.fr st.hp f51.results.toList=some [p]:=by
 simp[dfC,ah,f51,h0,h3]
theorem D0 {α:Type}{s:Nat}{e:α→List PV}(he:El s e){b:Nat}{hp:List Blk}{l:List α}{p:PV}(h:fe s e b hp l p):∃ rs ids,bq (snap hp bn) [p]=some (rs,ids)∧WkL rs [fg e l]:=by
 obtain⟨hb,h⟩:=h
 rcases h with ⟨rfl,rfl⟩| ⟨id,m,x,hid,_,rfl,_,h⟩
 ·exact⟨[.sc (.slice none 0 0)],[],rfl,Wk.nil false,trivial⟩
 ·have ht:bF (br ((l++m).flatMap e) 0) (l.length*s)=some (l.flatMap e):=by
   rw[cA,drop_zero,si he]
  have h1:Ab.snap hp (11+1) (.own id s 0 l.length x)=some (.imm l.length x (l.flatMap e),[id]):=by
   rw[Ab.snap]
   simp only[h]
   rw[if_neg (by simp),ht]
   simp only[he.sns hp 10 l]
  refine⟨[.imm l.length x (l.flatMap e)],[id],?_,?_,trivial⟩
  ·show bq (snap hp 12) _=_
   simp only[bq,h1]
   rfl
  ·cases x
   ·exact Wk.refl (by simp[PV.cO])
   ·exact Wk.imm _ _ _
def LR4:Lst:=[(59,pU),(60,xp),(61,KD)]
theorem ag1:dw base.P LR4:=⟨pS,sT,Ak,trivial⟩
abbrev XN:=List (List Rat) × List Nat
def vj (m:Nat)(k:Nat)(X:List (List Rat)):Prop:=∀ P ∈ X,P.length=m∧RbL k P
theorem xn {X Y:List (List Rat)}(h:qC X=qC Y):X=Y:=by
 have h1:=Ca h
 clear h
 induction X generalizing Y with
 | nil=>cases Y with
  | nil=>rfl
  | cons b Y=>simp at h1
 | cons a X ih=>cases Y with
  | nil=>simp at h1
  | cons b Y =>
   simp only[map_cons,List.cons.injEq] at h1
   rw[BL (X:=a) (Y:=b) (by unfold qL;rw[h1.1]),ih h1.2]
theorem I9 {p q:List Nat}(h:aN p=aN q):p=q:=by
 have h1:=Ja h
 exact map_inj_right (fun x y h=>Int.ofNat.inj h) |>.1 h1
def HT:List PV→Option (List PV):=ctr (fun p:XN=>[qC p.1,aN p.2]) (fun p=>p.2≠[]∧p.2.length≤1000∧(∀ i ∈ p.2,i<p.1.length)∧∃ m,m≤1000∧vj m 1000 p.1) fun p=>[mT (dj p.1 p.2)]
theorem HS:Ab.Spec base.P 51 HT:=Ab.Spec.bM (C:=CC LR4) (cP ag1) fun args rs h=>by
 obtain⟨⟨X,l⟩,⟨hne,h9,hin,m,hm,hE⟩,rfl,rfl⟩:=cN h
 dsimp only at hne h9 hin hE
 cases l with
 | nil=>exact absurd rfl hne
 | cons j l =>
  have hj:=hin j mem_cons_self
  have hEj:=hE _ (getElem_mem hj)
  obtain⟨fr,fr1,a1,a2,a3,a4⟩:=Wr LR4 (runK (CC LR4) (l.length+1)) (l.length+1) X j l hj (pn rfl _ _ hEj.2 (by omega))
  obtain⟨fr2,hp2,wr2,b1,b2,b3⟩:=B5 LR4 (runK (CC LR4) (l.length+1)) (l.length+1) X l X[j] (by simp at h9;omega) (fun i hi=>by
   have h1:=hin i (mem_cons_of_mem _ hi)
   have hEi:=hE _ (getElem_mem h1)
   exact⟨h1,pn rfl _ _ hEi.2 (by omega),Ji rfl _ true true _ _ hEi.2 hEj.2 (by omega) (by omega) (by omega) (by omega)⟩) l.length 0 fr1 [] [] [] (by omega) rfl (by rw[a4];exact fe.nil (Nat.le_refl _)) a3
  have hL:af (CC LR4) (runK (CC LR4) (l.length+1)) (l.length+1) (.seq Ws (.block 0 (.loop dfB))) ⟨fr,[],[]⟩=some (.normal,⟨fr2,hp2,wr2⟩):=by
   rw[av a2];exact bN b1
  obtain⟨st,c1,c2,c3⟩:=Lr LR4 (runK (CC LR4) (l.length+1)) (l.length+1) fr2 hp2 wr2 _ b2 rfl
  have hx:af (CC LR4) (runK (CC LR4) (l.length+1)) (l.length+1) dfC ⟨entry 35 [qC X,aN (j::l)],[],[]⟩=some (.ret,st):=by
   rw[aO 3 a1,Wp,av hL,c1]
  obtain⟨rs,ids,d1,d2⟩:=D0 acn b3
  refine⟨_,_,_,_,rs,ids,aP yE rfl hx c3,by rw[c2];exact d1,?_⟩
  have e:(dj X (j::l))=l.map (fun i=>dy (X.getD i []) X[j]):=by
   unfold dj
   simp only[tail_cons,headD_cons,getD_eq_getElem?_getD,getElem?_eq_getElem hj,Option.getD_some]
  show WkL rs [mT (dj X (j::l))]
  rw[e]
  exact d2
theorem acZ {L:Lst}(hL:bu L 51=fun a=>HT (aJ a))(run:ar)(X:List (List Rat))(l:List Nat)(hne:l≠[])(h9:l.length≤1000)(hin:∀ i ∈ l,i<X.length){m k:Nat}(hm:m≤1000)(hk:k≤1000)(hE:vj m k X):au L run 51 [qC X,aN l] (mT (dj X l)) :=
 fH Dc (e:=fun p:XN=>[qC p.1,aN p.2]) (f:=fun p=>[mT (dj p.1 p.2)]) hL (fun x y _ _ h=>by
  simp only[List.cons.injEq,and_true] at h
  rw[Prod.ext (xn h.1) (I9 h.2)]) run (X,l) ⟨hne,h9,hin,m,hm,fun P hP=>⟨(hE P hP).1,fun x hx=>((hE P hP).2 x hx).mono hk⟩⟩ (fun _=>rfl) (by simp only[aJ,qC,aN,fV,ja])
def exS (f:Nat→Rat)(r:List Rat)(S:List Bool):Nat→Option Rat × Bool
 | 0=>(none,false)
 | i+1=>if S.getD i false=true then exS f r S i else if r.getD i 0=0 then ((exS f r S i).1, !(exS f r S i).2) else
   (some (vv (exS f r S i).1+(bif (exS f r S i).2 then -(r.getD i 0*f i) else r.getD i 0*f i)), !(exS f r S i).2)
def exU (n:Nat):List (List Rat)→List Bool→Option Rat
 | [],_=>some 1
 | r::rs,S=>(exS (fun k=>vv (exU n rs (S.set k true))) r S n).1
def exB (n k:Nat):Nat→Nat
 | 0=>1
 | d+1=>n*(k+exB n k d+1)+1
theorem Iy {f:Nat→Rat}{r:List Rat}{S:List Bool}{k b:Nat}(hf:∀ i,Rb b (f i))(hr:RbL k r)(hk:0<k):∀ i,Rb (i*(k+b+1)+1) (vv (exS f r S i).1)
 | 0=>Rb.zero _
 | i+1=>by
  have ih:=Iy hf hr hk i (S:=S)
  have e:(i+1)*(k+b+1)=i*(k+b+1)+(k+b+1):=Nat.succ_mul i _
  have hx:Rb k (r.getD i 0):=by
   rw[getD_eq_getElem?_getD]
   cases h:r[i]? with
   | none=>exact (Rb.zero 0).mono (by omega)
   | some x=>exact hr x (mem_of_getElem? h)
  unfold exS
  by_cases h1:S.getD i false=true
  ·rw[if_pos h1];exact ih.mono (by rw[e];omega)
  ·rw[if_neg h1]
   by_cases h2:r.getD i 0=0
   ·rw[if_pos h2];exact ih.mono (by rw[e];omega)
   ·rw[if_neg h2]
    have hm:=hx.mul (hf i)
    have ht:Rb (k+b) (bif (exS f r S i).2 then -(r.getD i 0*f i) else r.getD i 0*f i):=by
     cases (exS f r S i).2
     ·exact hm
     ·exact hm.neg
    exact (ih.add ht).mono (by rw[e];omega)
theorem BX {n k:Nat}(hk:0<k):∀ (rows:List (List Rat)) (S:List Bool),(∀ r ∈ rows,RbL k r)→Rb (exB n k rows.length) (vv (exU n rows S))
 | [],S,_=>Rb.one 0
 | r::rs,S,h=>Iy (fun i=>BX hk rs _ fun r' hr'=>h r' (mem_cons_of_mem _ hr')) (h r mem_cons_self) hk n
theorem eN (l:List Nat):aA [] l=l:=rfl
theorem jJ:∀ {l w:List Nat} {i:Nat},i ∈ aA l w→i ∈ l∨i ∈ w
 | [],w,i,h=>.inr h
 | a::l,w,i,h=>by
  unfold aA at h
  cases hc:w.contains a with
  | true =>
   rw[hc,cond_true] at h
   rcases jJ h with h | h
   ·exact .inl (mem_cons_of_mem _ h)
   ·exact .inr h
  | false =>
   rw[hc,cond_false] at h
   rcases jJ h with h | h
   ·exact .inl (mem_cons_of_mem _ h)
   ·rcases mem_cons.1 h with h | h
    ·exact .inl (h ▸ mem_cons_self)
    ·exact .inr h
theorem lW:∀ {n:Nat} {l:List Nat} {i:Nat},i ∈ lU n l→i ∈ l∧i<n
 | n,a::l,i,h=>by
  unfold lU at h
  cases hc:a.blt n with
  | true =>
   rw[hc,cond_true] at h
   rcases mem_cons.1 h with h | h
   ·subst h;rw[Nat.blt_eq] at hc;exact⟨mem_cons_self,hc⟩
   ·exact⟨mem_cons_of_mem _ (lW h).1,(lW h).2⟩
  | false =>
   rw[hc,cond_false] at h
   exact⟨mem_cons_of_mem _ (lW h).1,(lW h).2⟩
theorem vT {hp:List Blk}{n:Nat} : ∀ {l:List Nat},(∀ i ∈ l,∀ b,aY hp i=some b→eP n b.cs=true)→iL hp n l=true
 | [],_=>rfl
 | a::l,h=>by
  unfold iL
  rw[vT fun i hi=>h i (mem_cons_of_mem _ hi),Bool.and_true]
  cases e:aY hp a with
  | none=>rfl
  | some b=>exact h a mem_cons_self b e
theorem QI {hp hp':List Blk}(hl:hp.length≤hp'.length)(h:∀ i,i<hp.length→aY hp' i=aY hp i):tH hp.length hp'=hp:=by
 rw[qH]
 refine ext_getElem? fun i => ?_
 by_cases hi:i<hp.length
 ·rw[getElem?_take_of_lt hi,← cZ,← cZ,h i hi]
 ·rw[getElem?_eq_none (by simp;omega),getElem?_eq_none (by omega)]
theorem De {L:Lst}{run:ar}{g:Nat}{args:List PV}{r:PV}{hp hp':List Blk}{w:List Nat}(hs:base.shared g=true)(hr:run g args hp=some ([r],hp',w))(hi:r.cO=true)(hl:hp.length≤hp'.length)(ho:∀ i,i<hp.length→aY hp' i=aY hp i)(hw:∀ i ∈ lU hp.length w,∀ b,aY hp' i=some b→eP hp.length b.cs=true)(dr:Bool):bX (CC L) run dr hp g args=some (r,hp,⟨[],lU hp.length w,true,true⟩):=by
 have hs':(CC L).shared g=true:=hs
 unfold bX
 rw[if_pos hs',hr]
 simp only[bU,hi,vT hw,Bool.and_self,cond_true,jk,QI hl ho]
theorem LC {l:List Nat}{a:Nat}(h:∀ i ∈ l,i=a):l=List.replicate l.length a:=eq_replicate_iff.2 ⟨rfl,h⟩
def eV (V:List Rat):List PV:=[vR V]
theorem aiN:Ec 1 eV:=cD.list
def mC (M:List (List Rat)):PV:=fg eV M
theorem Ip (M:List (List Rat)):dn (mC M)=some M.length:=rfl
theorem ais (M:List (List Rat))(i:Nat)(hi:i<M.length):∃ r,bg TT 80 (mC M) (.sc (.int .i64 (i:Int)))=some (.iptr r)∧r.head?=some (vR M[i]):=by
 have h:=lh aiN.toEl M i hi
 refine⟨br (M.flatMap eV) (i*1),?_,by rw[h];rfl⟩
 unfold mC fg
 simp only[bg,kO,bm,pM,hi,if_true]
theorem LD:fZ TT 80=some false:=by kernel_rfl
theorem J6:dt TT 80=some 1:=by kernel_rfl
theorem Gg:und TT 140=some (.slice 4):=by kernel_rfl
theorem wF:dt TT 140=some 1:=by kernel_rfl
theorem Ce:fZ TT 140=some false:=by kernel_rfl
def bl (b:Bool):PV:=.sc (.bool b)
theorem A7:base.F.get 109=some f109:=by kernel_rfl
theorem J1:base.shared 109=true:=by kernel_rfl
theorem sFn:dt TT 141=some 1:=by kernel_rfl
theorem aFn:fZ TT 141=some false:=by kernel_rfl
def exC:Code:=f109.body.getD .skip
def exL:Code:=(aC exC).getD .skip
def agm:Code:=seq1 exL
def agl:Code:=seq1 (cw exL)
def pr:Code:=blk (seq1 (cw (cw exL)))
def VK:Code:=cw (cw (cw exL))
def acm:Code:=seq1 pr
def ack:Code:=seq1 (cw pr)
def ot:Code:=seq1 (cw (cw pr))
def Ll:Code:=cw (cw (cw pr))
def acj:Code:=seq1 ot
def VJ:Code:=seq1 (cw ot)
def kI:Code→Code
 | .cond _ a _=>a
 | c=>c
def exT:Code:=kI (cw (cw ot))
def VI:Code:=seq1 exT
def AP:Code:=seq1 (cw exT)
def VH:Code:=seq1 (cw (cw exT))
def AO:Code:=seq1 (cw (cw (cw exT)))
def VG:Code:=cw (cw (cw (cw exT)))
theorem agk:exL = .seq agm (.seq agl (.seq (.block 1 (.seq acm (.seq ack (.seq ot Ll)))) VK)):=rfl
theorem Lk:ot = .seq acj (.seq VJ (.cond (.tmp 33) exT .skip)):=rfl
theorem agj:exT = .seq VI (.seq AP (.seq VH (.seq AO VG))):=rfl
def XF (fr:List PV)(b row n i:Nat)(neg:Bool):Prop:=fr.length=56∧nth fr 0=iv row∧nth fr 1 = .ptr 0 0∧nth fr 2 = .ptr 3 0∧nth fr 3 = .ptr 4 0∧nth fr 5 = .ptr b 0∧nth fr 6 = .ptr (b+1) 0∧nth fr 7 = .sc (.bool neg)∧nth fr 16=iv n∧nth fr 17=iv i
def fnP:PV:=.clos 109 [.ptr 0 0,.ptr 3 0,.ptr 4 0]
def H0 (hp:List Blk)(M:List (List Rat))(n:Nat)(S:List Bool):Prop:=aY hp 0=some ⟨.live,[mC M]⟩∧aY hp 2=some ⟨.live,S.map bl⟩∧aY hp 3=some ⟨.live,[.own 2 1 0 n true]⟩∧aY hp 4=some ⟨.live,[fnP]⟩
theorem agf(b row n:Nat)(neg:Bool)(h:XF fr b row n n neg) :
  ∃ fr',af (CC L) run k exL ⟨fr,hp,wr⟩=some (.exit 0,⟨fr',hp,wr⟩)∧XF fr' b row n n neg:=by
 obtain⟨h0,h1,h2,h3,h4,h5,h6,h7,h8,h9⟩:=h
 simp only[iv] at h1 h8 h9
 simp[XF,exL,exC,f109,h0,h1,h2,h3,h4,h5,h6,h7,h8,h9]
theorem ajK(b row n i:Nat)(neg:Bool)(hi:i<n)(h:XF fr b row n i neg) :
  ∃ fr1 fr2,af (CC L) run k agm ⟨fr,hp,wr⟩=some (.normal,⟨fr1,hp,wr⟩)∧af (CC L) run k agl ⟨fr1,hp,wr⟩=some (.normal,⟨fr1,hp,wr⟩)∧af (CC L) run k acm ⟨fr1,hp,wr⟩=some (.normal,⟨fr2,hp,wr⟩)∧XF fr2 b row n i neg∧nth fr2 8=iv i:=by
 obtain⟨h0,h1,h2,h3,h4,h5,h6,h7,h8,h9⟩:=h
 simp only[iv] at h1 h8 h9
 refine⟨dR fr 18 (.sc (.bool true)),?_⟩
 simp[XF,agm,agl,acm,pr,blk,seq1,cw,exL,exC,f109,and_assoc,eN,h0,h1,h2,h3,h4,h5,h6,h7,h8,h9,hi]
theorem Vn (n i:Nat)(hi:i<n):bg TT 140 (.own 2 1 0 n true) (.sc (.int .i64 (i:Int)))=some (.ptr 2 i):=by
 simp only[bg,Gg,bm,sB,hi,and_self,if_true,Nat.zero_add,Nat.mul_one]
theorem Lg(b row n i:Nat)(neg:Bool)(M:List (List Rat))(S:List Bool)(hi:i<n)(hS:S.length=n)(v:Bool)(hv:S.getD i false=v)(h:XF fr b row n i neg)(h8':nth fr 8=iv i)(hh:H0 hp M n S) :
  ∃ fr',af (CC L) run k ack ⟨fr,hp,wr⟩=some (bif v then .exit 1 else .normal,⟨fr',hp,wr⟩)∧XF fr' b row n i neg∧nth fr' 8=iv i:=by
 obtain⟨h0,h1,h2,h3,h4,h5,h6,h7,h8,h9⟩:=h
 obtain⟨k0,k2,k3,k4⟩:=hh
 have hx:=Vn n i hi
 have hd:=mQ (e:=bl) S i (by omega)
 have hv':S[i]'(by omega)=v:=by rw[← hv,getD_eq_getElem?_getD,getElem?_eq_getElem (by omega)];rfl
 rw[hv'] at hd
 simp only[iv] at h1 h8 h9 h8'
 simp only[bl] at hd
 have k2':aY hp 2=some ⟨.live,S.map fun b=>.sc (.bool b)⟩:=k2
 have hd':(br (S.map fun b=>(PV.sc (.bool b))) i).head?=some (.sc (.bool v)):=hd
 generalize (S.map fun b=>(PV.sc (.bool b)))=cs at *
 cases v <;> simp[XF,ack,pr,blk,seq1,cw,exL,exC,f109,and_assoc,eN,h0,h1,h2,h3,h4,h5,h6,h7,h8,h9,h8',k2',k3,hx,hd',Ce,wF,aB,sB,br]
theorem ajL(b row n i:Nat)(neg:Bool)(M:List (List Rat))(S:List Bool)(hr:row<M.length)(hi:i<M[row].length)(v:Bool)(gs:au L run 49 [.agg (rcs M[row][i])] (Ab.bz (gp M[row][i])))(hv:(gp M[row][i] != 0)=v)(h:XF fr b row n i neg)(h8':nth fr 8=iv i)(hh:H0 hp M n S) :
  ∃ fr1 fr',af (CC L) run k acj ⟨fr,hp,wr⟩=some (.normal,⟨fr1,bZ (aM hp rz) hp.length ⟨.live,rcs M[row][i]⟩,aA [hp.length] (aA [hp.length] wr)⟩)∧af (CC L) run k VJ ⟨fr1,bZ (aM hp rz) hp.length ⟨.live,rcs M[row][i]⟩,aA [hp.length] (aA [hp.length] wr)⟩=some (.normal,⟨fr',bZ (aM hp rz) hp.length ⟨.live,rcs M[row][i]⟩,aA [hp.length] (aA [hp.length] wr)⟩)∧XF fr' b row n i neg∧nth fr' 8=iv i∧nth fr' 9 = .ptr hp.length 0∧nth fr' 33 = .sc (.bool v):=by
 obtain⟨h0,h1,h2,h3,h4,h5,h6,h7,h8,h9⟩:=h
 obtain⟨k0,k2,k3,k4⟩:=hh
 obtain⟨r,x1,x2⟩:=ais M row hr
 obtain⟨r',y1,y2⟩:=od false M[row] i hi
 rw[show dp false M[row]=vR M[row] from rfl] at y1
 have hx:=al1 hp rz
 have hx1:=dW rz (rcs M[row][i]) (by rw[cD.len];rfl)
 have hx2:=al2 hp rz ⟨.live,rcs M[row][i]⟩
 have hx4:=eo (rcs M[row][i]) (cD.len _)
 have hokx:=cD.okc M[row][i]
 have hlx:=cD.len M[row][i]
 unfold au at gs
 simp only[Ab.bz] at gs
 generalize gp M[row][i]=sg at *
 generalize rcs M[row][i]=cx at *
 generalize M[row]=R at *
 simp only[iv] at h1 h8 h9 h8'
 have zR':=zRz
 obtain⟨fr1,a1,a2,a3,a4,a5,a6,a7,a8,a9,a10,a11,a12,a13⟩:∃ fr1,af (CC L) run k acj ⟨fr,hp,wr⟩=some (.normal,⟨fr1,bZ (aM hp rz) hp.length ⟨.live,cx⟩,aA [hp.length] (aA [hp.length] wr)⟩)∧fr1.length=56∧nth fr1 0 = .sc (.int .i64 (row:Int))∧nth fr1 1 = .ptr 0 0∧nth fr1 2 = .ptr 3 0∧nth fr1 3 = .ptr 4 0∧nth fr1 5 = .ptr b 0∧nth fr1 6 = .ptr (b+1) 0∧nth fr1 7 = .sc (.bool neg)∧nth fr1 16 = .sc (.int .i64 (n:Int))∧nth fr1 17 = .sc (.int .i64 (i:Int))∧nth fr1 8 = .sc (.int .i64 (i:Int))∧nth fr1 9 = .ptr hp.length 0:=by
  simp[acj,ot,pr,blk,seq1,cw,exL,exC,f109,bp,eN,h0,h1,h2,h3,h4,h5,h6,h7,h8,h9,h8',k0,x1,x2,y1,y2,hx,hx1,hokx,hlx,LD,J6,Xy,pM,aR,sR,zR',br]
 refine⟨fr1,?_⟩
 rw[a1]
 simp[XF,VJ,ot,pr,blk,seq1,cw,exL,exC,f109,and_assoc,eN,a2,a3,a4,a5,a6,a7,a8,a9,a10,a11,a12,a13,gs,hv,hx2,hx4,aR,sR,br]
theorem adn(b row n i:Nat)(neg:Bool)(h:XF fr b row n i neg) :
  ∃ fr',af (CC L) run k Ll ⟨fr,hp,wr⟩=some (.normal,⟨fr',hp,wr⟩)∧XF fr' b row n i (!neg):=by
 obtain⟨h0,h1,h2,h3,h4,h5,h6,h7,h8,h9⟩:=h
 simp only[iv] at h1 h8 h9
 simp[XF,Ll,pr,blk,seq1,cw,exL,exC,f109,unP,eN,h0,h1,h2,h3,h4,h5,h6,h7,h8,h9]
theorem aiF(b row n i:Nat)(neg:Bool)(hi:i<1000)(h:XF fr b row n i neg) :
  ∃ fr',af (CC L) run k VK ⟨fr,hp,wr⟩=some (.normal,⟨fr',hp,wr⟩)∧XF fr' b row n (i+1) neg:=by
 obtain⟨h0,h1,h2,h3,h4,h5,h6,h7,h8,h9⟩:=h
 have hw:=bH i (by omega)
 simp only[iv] at h1 h8 h9
 simp[XF,VK,cw,exL,exC,f109,eN,h0,h1,h2,h3,h4,h5,h6,h7,h8,h9,hw]
end Go.Proofs.YtjdmodeenbdfpaaGreat
end
