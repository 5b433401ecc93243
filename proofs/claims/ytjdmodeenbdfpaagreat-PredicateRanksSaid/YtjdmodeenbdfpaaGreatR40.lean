/- Contracts of fractions, clouds and predicates, part 40 of the proof; each lemma states its own conditions. -/
import Derived.Test.YtjdmodeenbdfpaaGreatR39
set_option linter.unusedSimpArgs false
set_option linter.unusedVariables false
namespace Go.Proofs.YtjdmodeenbdfpaaGreat
open Go Go.Ab
theorem HS:base.F.get 81=some Tryz.f81:=by kernel_rfl
theorem ON:base.shared 81=false:=by kernel_rfl
noncomputable def mi (c:List (List ByteArray)):Nat:=if chk c=0 then hdL c else 0
noncomputable def UE:List PV→Option (List PV):=ctr (fun c=>[cE c]) Fit fun c=>[iv (mi c)]
theorem neI (e:Nat):((e:Int) != 0) = !decide (e=0):=by
 by_cases h:e=0
 ·subst h;rfl
 ·have:((e:Int) != 0)=true:=by simp;omega
  rw[this,decide_eq_false h];rfl
theorem Z6 (L:Lst)(run:ar)(k:Nat)(c:List (List ByteArray))(g:aA L run 80 [cE c] (iv (chk c))) :
  ∃ st,af (CC L) run k (Tryz.f81.body.getD .skip) ⟨entry 15 [cE c],[],[]⟩=some (.ret,st)∧aZ TT st.fr st.hp Tryz.f81.results.toList=some [iv (mi c)]:=by
 obtain⟨e1,e2⟩:=cW 14 (cE c)
 generalize entry 15 [cE c]=fr0 at *
 unfold aA at g
 unfold mi
 have hne:=neI (chk c)
 cases hc:c with
 | nil =>
  have hl:ef (cE [])=some 0:=rfl
  rw[hc] at e2
  have h0:(if chk []=0 then hdL [] else 0)=0:=by split <;> rfl
  rw[h0]
  simp[Tryz.f81,iv,e1,e2,af,aJ,ao,aq,aH,ag,ai,aj,an,aF,aC,FP.none,bd,au,bj,aw,bM,aa,ae,ab,bh,hl,uCl,undef,aZ]
 | cons p r =>
  rw[← hc]
  obtain⟨q,x1,x2⟩:=jP uCl c 0 (by rw[hc];simp)
  have hp:c[0]'(by rw[hc];simp)=p:=by subst hc;rfl
  rw[hp] at x2
  rw[show (((0:Nat):Int))=(0:Int) from rfl] at x1
  have hh:hdL c=p.length:=by rw[hc];rfl
  have hl:=iz c
  have hl0:((c.length:Int) == 0)=false:=by rw[beq_eq_false_iff_ne,hc];simp;omega
  have hlp:=fQ p
  rw[hh]
  generalize chk c=e at *
  simp only[iv] at g ⊢
  have hcl : ¬ c.length=0:=by rw[hc];simp
  have hcn : ¬ c=[]:=by rw[hc];simp
  by_cases h:e=0
  ·subst h
   simp[Tryz.f81,e1,e2,af,aJ,ao,aq,aH,ag,ai,aQ,aj,an,aF,aC,FP.none,bd,au,bj,aw,bM,partOf,aa,ae,ab,bh,hl,hl0,hlp,uCl,uPt,g,x1,x2,aU,aPt,sPt,aZ]
  ·have hne2:((e:Int) != 0)=true:=by rw[hne,decide_eq_false h];rfl
   simp[Tryz.f81,e1,e2,af,aJ,ao,aq,aH,ag,ai,aQ,aj,an,aF,aC,FP.none,bd,au,bj,aw,bM,aa,ae,ab,bh,hl,hl0,uCl,g,hne2,h,aZ]
noncomputable def LR3:Lst:=(22,Hc)::LR2
theorem ad3:dL base.P LR3:=⟨yb,UP⟩
theorem Ns:Ab.Spec base.P 81 UE:=Ab.Spec.bQ (C:=CC LR3) (cV ad3) fun args rs h=>by
 obtain⟨c,hF,rfl,rfl⟩:=dz h
 obtain⟨st,x1,x2⟩:=Z6 LR3 (runK (CC LR3) 1) 1 c (aaI rfl _ c hF)
 exact⟨2,_,_,_,_,_,aX HS rfl x1 x2,rfl,Wk.refl rfl,trivial⟩
theorem ael {L:Lst}(hL:bw L 81=fun a=>UE (aK a))(run:ar)(c:List (List ByteArray))(hF:Fit c):aA L run 81 [cE c] (iv (mi c)) :=
 jZ ON (e:=fun c=>[cE c]) (f:=fun c=>[iv (mi c)]) hL (fun x y _ _ h=>by rw[tY h]) run c hF (pw · c) (og c)
def eT (V:List Rat):List PV:=[eu true V]
theorem ZB:El 1 eT where
 len:=fun _=>rfl
 okc:=fun _=>rfl
 idf:=fun _=>rfl
 sn:=fun _ _ _=>rfl
def mT (M:List (List Rat)):PV:=.imm M.length false (M.flatMap eT)
def qC (X:List (List Rat)):PV:=cE (X.map fun P=>P.map qb)
def aN (l:List Nat):PV:=aE (l.map Int.ofNat)
def dq (X:List (List Rat))(l:List Nat):List (List Rat):=l.tail.map fun i=>ij (X.getD i []) (X.getD (l.headD 0) [])
theorem xe:base.F.get 51=some Tryz.f51:=by kernel_rfl
theorem BE:base.shared 51=false:=by kernel_rfl
theorem kQ:und TT 80=some (.slice 84):=by kernel_rfl
theorem af3:iT TT 84=some 24:=by kernel_rfl
theorem aem:eK TT 84=some [.sc (.slice none 0 0)]:=by kernel_rfl
noncomputable def dfC:Code:=Tryz.f51.body.getD .skip
noncomputable def dfB:Code:=(az dfC).getD .skip
def DfF (fr:List PV)(X:List (List Rat))(l:List Nat)(V:List Rat)(i:Nat):Prop:=fr.length=35∧nth fr 0=qC X∧nth fr 5=eu true V∧nth fr 17=aN l∧nth fr 18=iv l.length∧nth fr 19=iv i
theorem adC (L:Lst)(run:ar)(k:Nat)(fr:List PV)(hp:List Blk)(wr:List Nat)(X:List (List Rat))(l:List Nat)(V:List Rat)(h:DfF fr X l V l.length) :
  ∃ fr',af (CC L) run k dfB ⟨fr,hp,wr⟩=some (.exit 0,⟨fr',hp,wr⟩)∧fr'.length=35∧nth fr' 6=nth fr 6:=by
 obtain⟨h0,h1,h5,h17,h18,h19⟩:=h
 simp only[iv] at h18 h19
 simp[dfB,dfC,Tryz.f51,az,af,aJ,ao,aq,aH,ag,ai,aj,an,aF,aC,FP.none,bd,au,bj,aa,ae,ab,h0,h18,h19]
theorem ae2 (v:PV)(hv:v.cells?=some [v]):ie TT 80 1 [(0,v)]=some (1,[v]):=by
 simp[ie,kQ,pA,aem,rep,dR,hv,cj]
theorem afJ (hp:List Blk)(v:PV):fO hp 1 (.imm 1 true [v])=some (1,[v],[]):=by simp[fO]
theorem TJ (L:Lst)(run:ar)(k:Nat)(fr:List PV)(hp:List Blk)(wr:List Nat)(X:List (List Rat))(l:List Nat)(V:List Rat)(i:Nat)(out:List (List Rat))(hi:i<l.length)(h9:l.length≤1000)(ho9:out.length≤1000)(hX:l[i]<X.length)(g1:aA L run 59 [qL X[l[i]]] (eu true X[l[i]]))(g2:aA L run 60 [eu true X[l[i]],eu true V] (eu true (ij X[l[i]] V)))(hO:gC 1 eT 0 hp out (nth fr 6))(h:DfF fr X l V i) :
  ∃ fr' hp' wr',af (CC L) run k dfB ⟨fr,hp,wr⟩=some (.normal,⟨fr',hp',wr'⟩)∧DfF fr' X l V (i+1)∧gC 1 eT 0 hp' (out++[ij X[l[i]] V]) (nth fr' 6):=by
 obtain⟨h0,h1,h5,h17,h18,h19⟩:=h
 have hi':i<(l.map Int.ofNat).length:=by simpa using hi
 obtain⟨r,x1,x2⟩:=IY (l.map Int.ofNat) i hi'
 have hX':l[i]<(X.map fun P=>P.map qb).length:=by simpa using hX
 obtain⟨r',y1,y2⟩:=jP uCl (X.map fun P=>P.map qb) l[i] hX'
 have e1:pE (X.map fun P=>P.map qb)[l[i]]=qL X[l[i]]:=by rw[List.getElem_map];rfl
 rw[e1] at y2
 rw[List.getElem_map] at x2
 rw[show aE (l.map Int.ofNat)=aN l from rfl] at x1
 rw[show cE (X.map fun P=>P.map qb)=qC X from rfl] at y1
 obtain⟨p',hp',fp,a1,a2,-⟩:=hO.app ZB [ij X[l[i]] V] (by simp) (by simp;omega)
 have hw:=bE i (by omega)
 have hlv:=ae2 (eu true (ij X[l[i]] V)) rfl
 have hrd:=fun hp=>afJ hp (eu true (ij X[l[i]] V))
 have e2:[ij X[l[i]] V].flatMap eT=[eu true (ij X[l[i]] V)]:=rfl
 rw[e2] at a1
 unfold aA at g1 g2
 have hid:(eu true (ij X[l[i]] V)).cO=true:=rfl
 have hok:=Gk true (ij X[l[i]] V)
 generalize eu true (ij X[l[i]] V)=v at *
 generalize ij X[l[i]] V=W at *
 generalize eu true X[l[i]]=u at *
 generalize qL X[l[i]]=q at *
 generalize l[i]=j at *
 rw[show Int.ofNat j=(j:Int) from rfl] at x2
 rw[show [W].length=1 from rfl] at a1
 simp only[iv] at h18 h19
 simp[DfF,iv,dfB,dfC,Tryz.f51,az,af,aJ,ao,aq,aH,ag,ai,aQ,aj,an,aF,aC,FP.none,bd,au,bj,aw,partOf,aa,ae,ab,bh,and_assoc,bg,h0,h1,h5,h17,h18,h19,hi,x1,x2,y1,y2,g1,g2,hlv,hrd,hid,hok,hw,aI,sI,aPt,sPt,aU,cq,kQ,pA,af3,aem,cn,a1,a2]
theorem AI (L:Lst)(run:ar)(k:Nat)(X:List (List Rat))(l:List Nat)(V:List Rat)(h9:l.length≤1000)(hl:∀ i ∈ l,∃ h:i<X.length,aA L run 59 [qL X[i]] (eu true X[i])∧aA L run 60 [eu true X[i],eu true V] (eu true (ij X[i] V))):∀ (n i:Nat) (fr:List PV) (hp:List Blk) (wr:List Nat) (out:List (List Rat)),i+n=l.length→out=(l.take i).map (fun j=>ij (X.getD j []) V)→gC 1 eT 0 hp out (nth fr 6)→DfF fr X l V i →
  ∃ fr' hp' wr',cl (af (CC L) run k dfB) (n+1) ⟨fr,hp,wr⟩=some (.exit 0,⟨fr',hp',wr'⟩)∧fr'.length=35∧gC 1 eT 0 hp' (l.map (fun j=>ij (X.getD j []) V)) (nth fr' 6)
 | 0,i,fr,hp,wr,out,hin,ho,hO,h=>by
  have e:i=l.length:=by omega
  subst e
  obtain⟨fr',q1,q2,q3⟩:=adC L run k fr hp wr X l V h
  refine⟨fr',hp,wr,bD q1,q2,?_⟩
  rw[List.take_length] at ho
  rw[q3,← ho]
  exact hO
 | n+1,i,fr,hp,wr,out,hin,ho,hO,h=>by
  have hi:i<l.length:=by omega
  obtain⟨hX,g1,g2⟩:=hl l[i] (List.getElem_mem hi)
  obtain⟨fr1,hp1,wr1,q1,q2,q3⟩:=TJ L run k fr hp wr X l V i out hi h9 (by rw[ho];simp;omega) hX g1 g2 hO h
  obtain⟨fr',hp',wr',s1,s2⟩:=AI L run k X l V h9 hl n (i+1) fr1 hp1 wr1 _ (by omega) (by
   rw[ho,List.take_succ_eq_append_getElem hi,List.map_append,List.map_cons,List.map_nil,List.getD_eq_getElem?_getD,List.getElem?_eq_getElem hX];rfl) q3 q2
  exact⟨fr',hp',wr',by rw[ch q1];exact s1,s2⟩
noncomputable def TL:Code:=seq1 (seq1 (ah 3 dfC))
theorem TI:ah 3 dfC = .seq (.seq TL (.block 0 (.loop dfB))) (ah 4 dfC):=rfl
theorem aeA (hp:List Blk)(j:Nat)(l:List Nat):dt TT hp 24 (aN (j::l)) (some (.sc (.int .i64 1))) none none=some (aN l):=by
 have h1:aN (j::l) = .imm (l.length+1) false (.sc (.int .i64 (Int.ofNat j))::(l.map Int.ofNat).flatMap ei):=by
  simp[aN,aE,gU,ei]
 have h2:aN l = .imm l.length false ((l.map Int.ofNat).flatMap ei):=by simp[aN,aE,gU]
 have h3:((l.map Int.ofNat).flatMap ei).length=l.length:=by
  have:=adt.toEl.length (l.map Int.ofNat)
  simpa using this
 rw[h1,h2]
 have ht:bG ((l.map Int.ofNat).flatMap ei) l.length=some ((l.map Int.ofNat).flatMap ei):=by
  rw[dM (by omega),← h3,List.take_length]
 simp[dt,ox,im,sI,bnd,fk,Z9,gT,h3,br,ht]
theorem TK (L:Lst)(run:ar)(k:Nat)(X:List (List Rat))(j:Nat)(l:List Nat)(hj:j<X.length)(g:aA L run 59 [qL X[j]] (eu true X[j])) :
  ∃ fr fr',aY (CC L) run k 3 dfC ⟨entry 35 [qC X,aN (j::l)],[],[]⟩=some ⟨fr,[],[]⟩∧af (CC L) run k TL ⟨fr,[],[]⟩=some (.normal,⟨fr',[],[]⟩)∧DfF fr' X l X[j] 0∧nth fr' 6 = .sc (.slice none 0 0):=by
 obtain⟨e1,e2,e3⟩:=cC 33 (qC X) (aN (j::l))
 generalize entry 35 [qC X,aN (j::l)]=fr0 at *
 have hX':j<(X.map fun P=>P.map qb).length:=by simpa using hj
 obtain⟨r',y1,y2⟩:=jP uCl (X.map fun P=>P.map qb) j hX'
 obtain⟨r,x1,x2⟩:=IY ((j::l).map Int.ofNat) 0 (by simp)
 have e4:pE (X.map fun P=>P.map qb)[j]=qL X[j]:=by rw[List.getElem_map];rfl
 rw[e4] at y2
 rw[show ((j::l).map Int.ofNat)[0]'(by simp)=(j:Int) from rfl] at x2
 rw[show aE ((j::l).map Int.ofNat)=aN (j::l) from rfl,show (((0:Nat):Int))=(0:Int) from rfl] at x1
 rw[show cE (X.map fun P=>P.map qb)=qC X from rfl] at y1
 have hsl:=fun hp=>aeA hp j l
 have hl:ef (aN l)=some l.length:=by simp[aN,aE,gU,ef]
 unfold aA at g
 obtain⟨fr,a1,a2,a3,a4,a5,a6⟩:∃ fr,aY (CC L) run k 3 dfC ⟨fr0,[],[]⟩=some ⟨fr,[],[]⟩∧fr.length=35∧nth fr 0=qC X∧nth fr 1=aN (j::l)∧nth fr 5=eu true X[j]∧nth fr 6 = .sc (.slice none 0 0):=by
  simp[dfC,Tryz.f51,aY,e1,e2,e3,af,aJ,ao,aq,aH,ag,ai,aQ,aj,an,aF,aC,FP.none,aw,partOf,aa,ae,ab,bh,x1,x2,y1,y2,g,aI,sI,aPt,sPt,aU]
 refine⟨fr,?_⟩
 rw[a1]
 obtain⟨cs,hal⟩:∃ cs,aN (j::l) = .imm (l.length+1) false cs:=⟨_,by simp only[aN,aE,gU,List.length_map,List.length_cons];rfl⟩
 rw[hal] at a4
 simp only[hal] at hsl
 simp[DfF,iv,TL,seq1,ah,dfC,Tryz.f51,a2,a3,a4,a5,a6,af,aJ,ao,aq,aH,ag,ai,aj,an,aF,aC,FP.none,aw,bM,aa,ae,ab,bh,and_assoc,hsl,hl,ox]
theorem Ji (L:Lst)(run:ar)(k:Nat)(fr:List PV)(hp:List Blk)(wr:List Nat)(p:PV)(h0:fr.length=35)(h3:nth fr 6=p):∃ st,af (CC L) run k (ah 4 dfC) ⟨fr,hp,wr⟩=some (.ret,st)∧st.hp=hp∧aZ TT st.fr st.hp Tryz.f51.results.toList=some [p]:=by
 simp[dfC,ah,Tryz.f51,h0,h3,af,aJ,ao,aq,aH,ag,ai,aj,an,aF,aC,FP.none,aa,ab,aZ]
theorem QU {α:Type}{s:Nat}{e:α→List PV}(he:El s e){b:Nat}{hp:List Blk}{l:List α}{p:PV}(h:gC s e b hp l p):∃ rs ids,bt (snap hp bp) [p]=some (rs,ids)∧WkL rs [gU e l]:=by
 obtain⟨hb,h⟩:=h
 rcases h with ⟨rfl,rfl⟩| ⟨id,m,x,hid,_,rfl,_,h⟩
 ·exact⟨[.sc (.slice none 0 0)],[],rfl,Wk.nil false,trivial⟩
 ·have ht:bG (br ((l++m).flatMap e) 0) (l.length*s)=some (l.flatMap e):=by
   rw[cL,List.drop_zero,qK he]
  have h1:Ab.snap hp (11+1) (.own id s 0 l.length x)=some (.imm l.length x (l.flatMap e),[id]):=by
   rw[Ab.snap]
   simp only[h]
   rw[if_neg (by simp),ht]
   simp only[he.sns hp 10 l]
  refine⟨[.imm l.length x (l.flatMap e)],[id],?_,?_,trivial⟩
  ·show bt (snap hp 12) _=_
   simp only[bt,h1]
   rfl
  ·cases x
   ·exact Wk.refl (by simp[PV.cO])
   ·exact Wk.imm _ _ _
noncomputable def LR4:Lst:=[(59,rm),(60,yy),(61,aav)]
theorem ad2:dL base.P LR4:=⟨vA,yx,LP,trivial⟩
abbrev XN:=List (List Rat) × List Nat
def NQ (m:Nat)(k:Nat)(X:List (List Rat)):Prop:=∀ P ∈ X,P.length=m∧RbL k P
theorem abu {X Y:List (List Rat)}(h:qC X=qC Y):X=Y:=by
 have h1:=AM h
 clear h
 induction X generalizing Y with
 | nil=>cases Y with
  | nil=>rfl
  | cons b Y=>simp at h1
 | cons a X ih=>cases Y with
  | nil=>simp at h1
  | cons b Y =>
   simp only[List.map_cons,List.cons.injEq] at h1
   rw[QM (X:=a) (Y:=b) (by unfold qL;rw[h1.1]),ih h1.2]
theorem adU {p q:List Nat}(h:aN p=aN q):p=q:=by
 have h1:=Hu h
 exact List.map_inj_right (fun x y h=>Int.ofNat.inj h) |>.1 h1
noncomputable def Ge:List PV→Option (List PV):=ctr (fun p:XN=>[qC p.1,aN p.2]) (fun p=>p.2≠[]∧p.2.length≤1000∧(∀ i ∈ p.2,i<p.1.length)∧∃ m,m≤1000∧NQ m 1000 p.1) fun p=>[mT (dq p.1 p.2)]
theorem Gd:Ab.Spec base.P 51 Ge:=Ab.Spec.bQ (C:=CC LR4) (cV ad2) fun args rs h=>by
 obtain⟨⟨X,l⟩,⟨hne,h9,hin,m,hm,hE⟩,rfl,rfl⟩:=dz h
 dsimp only at hne h9 hin hE
 cases l with
 | nil=>exact absurd rfl hne
 | cons j l =>
  have hj:=hin j List.mem_cons_self
  have hEj:=hE _ (List.getElem_mem hj)
  obtain⟨fr,fr1,a1,a2,a3,a4⟩:=TK LR4 (runK (CC LR4) (l.length+1)) (l.length+1) X j l hj (ua rfl _ _ hEj.2 (by omega))
  obtain⟨fr2,hp2,wr2,b1,b2,b3⟩:=AI LR4 (runK (CC LR4) (l.length+1)) (l.length+1) X l X[j] (by simp at h9;omega) (fun i hi=>by
   have h1:=hin i (List.mem_cons_of_mem _ hi)
   have hEi:=hE _ (List.getElem_mem h1)
   exact⟨h1,ua rfl _ _ hEi.2 (by omega),UY rfl _ true true _ _ hEi.2 hEj.2 (by omega) (by omega) (by omega) (by omega)⟩) l.length 0 fr1 [] [] [] (by omega) rfl (by rw[a4];exact gC.nil (Nat.le_refl _)) a3
  have hL:af (CC LR4) (runK (CC LR4) (l.length+1)) (l.length+1) (.seq TL (.block 0 (.loop dfB))) ⟨fr,[],[]⟩=some (.normal,⟨fr2,hp2,wr2⟩):=by
   rw[av a2];exact bH b1
  obtain⟨st,c1,c2,c3⟩:=Ji LR4 (runK (CC LR4) (l.length+1)) (l.length+1) fr2 hp2 wr2 _ b2 rfl
  have hx:af (CC LR4) (runK (CC LR4) (l.length+1)) (l.length+1) dfC ⟨entry 35 [qC X,aN (j::l)],[],[]⟩=some (.ret,st):=by
   rw[aP 3 a1,TI,av hL,c1]
  obtain⟨rs,ids,d1,d2⟩:=QU ZB b3
  refine⟨_,_,_,_,rs,ids,aX xe rfl hx c3,by rw[c2];exact d1,?_⟩
  have e:(dq X (j::l))=l.map (fun i=>ij (X.getD i []) X[j]):=by
   unfold dq
   simp only[List.tail_cons,List.headD_cons,List.getD_eq_getElem?_getD,List.getElem?_eq_getElem hj,Option.getD_some]
  show WkL rs [mT (dq X (j::l))]
  rw[e]
  exact d2
theorem aag {L:Lst}(hL:bw L 51=fun a=>Ge (aK a))(run:ar)(X:List (List Rat))(l:List Nat)(hne:l≠[])(h9:l.length≤1000)(hin:∀ i ∈ l,i<X.length){m k:Nat}(hm:m≤1000)(hk:k≤1000)(hE:NQ m k X):aA L run 51 [qC X,aN l] (mT (dq X l)) :=
 jZ BE (e:=fun p:XN=>[qC p.1,aN p.2]) (f:=fun p=>[mT (dq p.1 p.2)]) hL (fun x y _ _ h=>by
  simp only[List.cons.injEq,and_true] at h
  rw[Prod.ext (abu h.1) (adU h.2)]) run (X,l) ⟨hne,h9,hin,m,hm,fun P hP=>⟨(hE P hP).1,fun x hx=>((hE P hP).2 x hx).mono hk⟩⟩ (fun _=>rfl) (by simp only[aK,qC,aN,nC,wQ])
theorem KB {L:Lst}(hr:bw L 59=fun a=>rm (aK a))(hs:bw L 60=fun a=>yy (aK a))(X:List (List Rat))(l:List Nat)(hne:l≠[])(h9:l.length≤1000)(hin:∀ i ∈ l,i<X.length){m:Nat}(hm:m≤1000)(hE:NQ m 1000 X)(k:Nat)(hk:l.length≤k) :
  ∃ p hp wr,runK (CC L) (k+1) 51 [qC X,aN l] []=some ([p],hp,wr)∧gC 1 eT 0 hp (dq X l) p:=by
 cases l with
 | nil=>exact absurd rfl hne
 | cons j l =>
  have hj:=hin j List.mem_cons_self
  have hEj:=hE _ (List.getElem_mem hj)
  obtain⟨fr,fr1,a1,a2,a3,a4⟩:=TK L (runK (CC L) k) k X j l hj (ua hr _ _ hEj.2 (by omega))
  obtain⟨fr2,hp2,wr2,b1,b2,b3⟩:=AI L (runK (CC L) k) k X l X[j] (by simp at h9;omega) (fun i hi=>by
   have h1:=hin i (List.mem_cons_of_mem _ hi)
   have hEi:=hE _ (List.getElem_mem h1)
   exact⟨h1,ua hr _ _ hEi.2 (by omega),UY hs _ true true _ _ hEi.2 hEj.2 (by omega) (by omega) (by omega) (by omega)⟩) l.length 0 fr1 [] [] [] (by omega) rfl (by rw[a4];exact gC.nil (Nat.le_refl _)) a3
  have hL:af (CC L) (runK (CC L) k) k (.seq TL (.block 0 (.loop dfB))) ⟨fr,[],[]⟩=some (.normal,⟨fr2,hp2,wr2⟩):=by
   rw[av a2];exact bH (ca b1 (by simp at hk;omega))
  obtain⟨st,c1,c2,c3⟩:=Ji L (runK (CC L) k) k fr2 hp2 wr2 _ b2 rfl
  have hx:af (CC L) (runK (CC L) k) k dfC ⟨entry 35 [qC X,aN (j::l)],[],[]⟩=some (.ret,st):=by
   rw[aP 3 a1,TI,av hL,c1]
  have e:(dq X (j::l))=l.map (fun i=>ij (X.getD i []) X[j]):=by
   unfold dq
   simp only[List.tail_cons,List.headD_cons,List.getD_eq_getElem?_getD,List.getElem?_eq_getElem hj,Option.getD_some]
  refine⟨_,_,_,aX xe rfl hx c3,?_⟩
  rw[c2,e]
  exact b3
theorem Hh {L:Lst}(hno:bw L 51=fun _=>none)(hr:bw L 59=fun a=>rm (aK a))(hs:bw L 60=fun a=>yy (aK a))(X:List (List Rat))(l:List Nat)(hne:l≠[])(h9:l.length≤1000)(hin:∀ i ∈ l,i<X.length){m:Nat}(hm:m≤1000)(hE:NQ m 1000 X)(k:Nat)(hk:l.length≤k)(dr:Bool)(hp:List Blk) :
  ∃ p hp' fp,cg (CC L) (runK (CC L) (k+1)) dr hp 51 [qC X,aN l]=some (p,hp',fp)∧gC 1 eT hp.length hp' (dq X l) p∧(∀ i,i<hp.length→aV hp' i=aV hp i):=by
 obtain⟨p,hp1,wr,h1,hb,h2⟩:=KB hr hs X l hne h9 hin hm hE k hk
 have h3:bt (snap hp bp) [qC X,aN l]=some ([qC X,aN l],[]):=rfl
 have h4:(CC L).orc 51 [qC X,aN l]=none:=by show bw L 51 _=_;rw[hno]
 have h5:(CC L).shared 51=false:=BE
 unfold cg
 rw[h5,if_neg (by simp),h3]
 dsimp only
 rw[h4]
 dsimp only
 rw[h1]
 dsimp only
 rcases h2 with ⟨hd,rfl⟩| ⟨id,M,x,-,-,rfl,hx,h6⟩
 ·have h8:dS hp1 [] [] [] [.sc (.slice none 0 0)]=some ([.sc (.slice none 0 0)],[]):=by
   simp[dS,snap,bp]
  rw[h8]
  exact⟨_,_,_,rfl,by rw[hd];exact gC.nil (Nat.le_refl _),fun _ _=>rfl⟩
 ·have h7:bt (snap hp1 bp) ((dq X l++M).flatMap eT)=some ((dq X l++M).flatMap eT,[]):=ZB.sns hp1 _ _
  have h8:dS hp1 [] [] [] [.own id 1 0 (dq X l).length x]=some ([.own 0 1 0 (dq X l).length x],[⟨.live,(dq X l++M).flatMap eT⟩]):=by
   simp[dS,h6,h7,-List.flatMap_append]
  rw[h8]
  refine⟨.own hp.length 1 0 (dq X l).length x,hp++[⟨.live,(dq X l++M).flatMap eT⟩],_,rfl,⟨by simp,.inr ⟨hp.length,M,x,Nat.le_refl _,by simp,rfl,hx,?_⟩⟩,fun i hi => ?_⟩
  ·rw[cK,List.getElem?_append_right (Nat.le_refl _)];simp
  ·rw[cK,cK,List.getElem?_append_left hi]
def eg (hp:List Blk)(p:PV)(X:List Rat):Prop:=p=eu true X∨∃ id,p = .own id 4 0 X.length true∧aV hp id=some ⟨.live,X.flatMap rcs⟩
theorem Ed:base.F.get 53=some Tryz.f53:=by kernel_rfl
theorem J2:base.shared 53=true:=by kernel_rfl
theorem pd:base.F.get 52=some Tryz.f52:=by kernel_rfl
theorem uH:base.shared 52=true:=by kernel_rfl
theorem vJ (X:List Rat)(i:Nat)(hi:i<X.length):bG (br (X.flatMap rcs) (i*4)) 4=some (rcs X[i]):=by
 have h:=oc cG.toEl X i hi
 rw[h,dM (by rw[List.length_append,cG.len];omega)]
 have hl:=cG.len X[i]
 generalize rcs X[i]=c at *
 rw[← hl,List.take_left]
theorem Pc (L:Lst)(run:ar)(k0:Nat)(hp:List Blk)(v:PV)(X:List Rat)(k b:Nat)(s:Int)(hv:eg hp v X)(hk:k<X.length)(hb:aV hp b=some ⟨.live,[iv k]⟩)(g:aA L run 49 [.agg (rcs X[k])] (Ab.bJ s)) :
  ∃ st,af (CC L) run k0 (Tryz.f53.body.getD .skip) ⟨entry 10 [v,.ptr b 0],hp,[]⟩=some (.ret,st)∧st.hp=hp∧st.wr=[]∧aZ TT st.fr st.hp Tryz.f53.results.toList=some [.sc (.bool (s != 0))]:=by
 obtain⟨e1,e2,e3⟩:=cC 8 v (.ptr b 0)
 generalize entry 10 [v,.ptr b 0]=fr0 at *
 unfold aA at g
 simp only[Ab.bJ] at g
 have hok:=cG.okc X[k]
 have hlen:=cG.len X[k]
 rcases hv with rfl | ⟨id,rfl,hid⟩
 ·obtain⟨r,x1,x2⟩:=m9 true X k hk
  generalize rcs X[k]=c at *
  simp only[iv] at hb
  simp[Tryz.f53,e1,e2,e3,af,aJ,ao,aq,aH,ag,ai,aQ,aj,an,aF,aC,FP.none,bd,au,bj,aw,partOf,aa,ae,ab,bh,hb,x1,x2,g,sI,aI,aR,sR,aU,br,aZ]
 ·have x1:=rG id X.length k true hk
  have x2:=vJ X k hk
  generalize rcs X[k]=c at *
  simp only[iv] at hb
  simp[Tryz.f53,e1,e2,e3,af,aJ,ao,aq,aH,ag,ai,aQ,aj,an,aF,aC,FP.none,bd,au,bj,aw,partOf,aa,ae,ab,bh,hb,hid,x1,x2,g,sI,aI,aR,sR,aU,br,aZ]
def exS (f:Nat→Rat)(r:List Rat)(S:List Bool):Nat→Option Rat × Bool
 | 0=>(none,false)
 | i+1=>if S.getD i false=true then exS f r S i else if r.getD i 0=0 then ((exS f r S i).1, !(exS f r S i).2) else
   (some (vv (exS f r S i).1+(bif (exS f r S i).2 then -(r.getD i 0*f i) else r.getD i 0*f i)), !(exS f r S i).2)
def exU (n:Nat):List (List Rat)→List Bool→Option Rat
 | [],_=>some 1
 | r::rs,S=>(exS (fun k=>vv (exU n rs (S.set k true))) r S n).1
def exB (n k:Nat):Nat→Nat
 | 0=>1
 | d+1=>n*(k+exB n k d+1)+1
theorem GV {f:Nat→Rat}{r:List Rat}{S:List Bool}{k b:Nat}(hf:∀ i,Rb b (f i))(hr:RbL k r)(hk:0<k):∀ i,Rb (i*(k+b+1)+1) (vv (exS f r S i).1)
 | 0=>Rb.zero _
 | i+1=>by
  have ih:=GV hf hr hk i (S:=S)
  have e:(i+1)*(k+b+1)=i*(k+b+1)+(k+b+1):=Nat.succ_mul i _
  have hx:Rb k (r.getD i 0):=by
   rw[List.getD_eq_getElem?_getD]
   cases h:r[i]? with
   | none=>exact (Rb.zero 0).mono (by omega)
   | some x=>exact hr x (List.mem_of_getElem? h)
  unfold exS
  by_cases h1:S.getD i false=true
  ·rw[if_pos h1];exact ih.mono (by rw[e];omega)
  ·rw[if_neg h1]
   by_cases h2:r.getD i 0=0
   ·rw[if_pos h2];exact ih.mono (by rw[e];omega)
   ·rw[if_neg h2]
    have hm:=hx.mul (hf i)
    have ht:Rb (k+b) (bif (exS f r S i).2 then -(r.getD i 0*f i) else r.getD i 0*f i):=by
     cases (exS f r S i).2
     ·exact hm
     ·exact hm.neg
    exact (ih.add ht).mono (by rw[e];omega)
theorem GU {n k:Nat}(hk:0<k):∀ (rows:List (List Rat)) (S:List Bool),(∀ r ∈ rows,RbL k r)→Rb (exB n k rows.length) (vv (exU n rows S))
 | [],S,_=>Rb.one 0
 | r::rs,S,h=>GV (fun i=>GU hk rs _ fun r' hr'=>h r' (List.mem_cons_of_mem _ hr')) (h r List.mem_cons_self) hk n
theorem ez (l:List Nat):aC [] l=l:=rfl
theorem jj:∀ {l w:List Nat} {i:Nat},i ∈ aC l w→i ∈ l∨i ∈ w
 | [],w,i,h=>.inr h
 | a::l,w,i,h=>by
  unfold aC at h
  cases hc:w.contains a with
  | true =>
   rw[hc,cond_true] at h
   rcases jj h with h | h
   ·exact .inl (List.mem_cons_of_mem _ h)
   ·exact .inr h
  | false =>
   rw[hc,cond_false] at h
   rcases jj h with h | h
   ·exact .inl (List.mem_cons_of_mem _ h)
   ·rcases List.mem_cons.1 h with h | h
    ·exact .inl (h ▸ List.mem_cons_self)
    ·exact .inr h
theorem ld:∀ {n:Nat} {l:List Nat} {i:Nat},i ∈ kZ n l→i ∈ l∧i<n
 | n,a::l,i,h=>by
  unfold kZ at h
  cases hc:a.blt n with
  | true =>
   rw[hc,cond_true] at h
   rcases List.mem_cons.1 h with h | h
   ·subst h;rw[Nat.blt_eq] at hc;exact⟨List.mem_cons_self,hc⟩
   ·exact⟨List.mem_cons_of_mem _ (ld h).1,(ld h).2⟩
  | false =>
   rw[hc,cond_false] at h
   exact⟨List.mem_cons_of_mem _ (ld h).1,(ld h).2⟩
theorem ug {hp:List Blk}{n:Nat} : ∀ {l:List Nat},(∀ i ∈ l,∀ b,aV hp i=some b→eA n b.cs=true)→ig hp n l=true
 | [],_=>rfl
 | a::l,h=>by
  unfold ig
  rw[ug fun i hi=>h i (List.mem_cons_of_mem _ hi),Bool.and_true]
  cases e:aV hp a with
  | none=>rfl
  | some b=>exact h a List.mem_cons_self b e
theorem Od {hp hp':List Blk}(hl:hp.length≤hp'.length)(h:∀ i,i<hp.length→aV hp' i=aV hp i):sb hp.length hp'=hp:=by
 rw[pr]
 refine List.ext_getElem? fun i => ?_
 by_cases hi:i<hp.length
 ·rw[List.getElem?_take_of_lt hi,← cK,← cK,h i hi]
 ·rw[List.getElem?_eq_none (by simp;omega),List.getElem?_eq_none (by omega)]
theorem BG {L:Lst}{run:ar}{g:Nat}{args:List PV}{r:PV}{hp hp':List Blk}{w:List Nat}(hs:base.shared g=true)(hr:run g args hp=some ([r],hp',w))(hi:r.cO=true)(hl:hp.length≤hp'.length)(ho:∀ i,i<hp.length→aV hp' i=aV hp i)(hw:∀ i ∈ kZ hp.length w,∀ b,aV hp' i=some b→eA hp.length b.cs=true)(dr:Bool):cg (CC L) run dr hp g args=some (r,hp,⟨[],kZ hp.length w,true,true⟩):=by
 have hs':(CC L).shared g=true:=hs
 unfold cg
 rw[if_pos hs',hr]
 simp only[cq,hi,ug hw,Bool.and_self,cond_true,iO,Od hl ho]
theorem Js {l:List Nat}{a:Nat}(h:∀ i ∈ l,i=a):l=List.replicate l.length a:=List.eq_replicate_iff.2 ⟨rfl,h⟩
def eV (V:List Rat):List PV:=[vR V]
theorem afi:Ec 1 eV:=cG.list
def mC (M:List (List Rat)):PV:=gU eV M
theorem GJ (M:List (List Rat)):ef (mC M)=some M.length:=rfl
theorem ae5 (M:List (List Rat))(i:Nat)(hi:i<M.length):∃ r,bc TT 80 (mC M) (.sc (.int .i64 (i:Int)))=some (.iptr r)∧r.head?=some (vR M[i]):=by
 have h:=oc afi.toEl M i hi
 refine⟨br (M.flatMap eV) (i*1),?_,by rw[h];rfl⟩
 unfold mC gU
 simp only[bc,kQ,bm,pA,hi,if_true]
theorem Jt:fR TT 80=some false:=by kernel_rfl
theorem Iq:dc TT 80=some 1:=by kernel_rfl
theorem Eu:und TT 140=some (.slice 4):=by kernel_rfl
theorem uK:dc TT 140=some 1:=by kernel_rfl
theorem AQ:fR TT 140=some false:=by kernel_rfl
def bl (b:Bool):PV:=.sc (.bool b)
theorem zw:base.F.get 109=some Tryz.f109:=by kernel_rfl
theorem Ik:base.shared 109=true:=by kernel_rfl
theorem sFn:dc TT 141=some 1:=by kernel_rfl
theorem aFn:fR TT 141=some false:=by kernel_rfl
noncomputable def exC:Code:=Tryz.f109.body.getD .skip
noncomputable def exL:Code:=(az exC).getD .skip
noncomputable def adn:Code:=seq1 exL
noncomputable def adm:Code:=seq1 (cA exL)
noncomputable def ow:Code:=blk (seq1 (cA (cA exL)))
noncomputable def Ti:Code:=cA (cA (cA exL))
noncomputable def Zy:Code:=seq1 ow
noncomputable def Zx:Code:=seq1 (cA ow)
noncomputable def nm:Code:=seq1 (cA (cA ow))
noncomputable def Jf:Code:=cA (cA (cA ow))
noncomputable def Zw:Code:=seq1 nm
noncomputable def Th:Code:=seq1 (cA nm)
def jS:Code→Code
 | .cond _ a _=>a
 | c=>c
noncomputable def exT:Code:=jS (cA (cA nm))
noncomputable def Tg:Code:=seq1 exT
noncomputable def y7:Code:=seq1 (cA exT)
noncomputable def Tf:Code:=seq1 (cA (cA exT))
noncomputable def y6:Code:=seq1 (cA (cA (cA exT)))
noncomputable def Te:Code:=cA (cA (cA (cA exT)))
theorem adl:exL = .seq adn (.seq adm (.seq (.block 1 (.seq Zy (.seq Zx (.seq nm Jf)))) Ti)):=rfl
theorem Je:nm = .seq Zw (.seq Th (.cond (.tmp 33) exT .skip)):=rfl
theorem adk:exT = .seq Tg (.seq y7 (.seq Tf (.seq y6 Te))):=rfl
def XF (fr:List PV)(b row n i:Nat)(neg:Bool):Prop:=fr.length=56∧nth fr 0=iv row∧nth fr 1 = .ptr 0 0∧nth fr 2 = .ptr 3 0∧nth fr 3 = .ptr 4 0∧nth fr 5 = .ptr b 0∧nth fr 6 = .ptr (b+1) 0∧nth fr 7 = .sc (.bool neg)∧nth fr 16=iv n∧nth fr 17=iv i
def fnP:PV:=.clos 109 [.ptr 0 0,.ptr 3 0,.ptr 4 0]
def H0 (hp:List Blk)(M:List (List Rat))(n:Nat)(S:List Bool):Prop:=aV hp 0=some ⟨.live,[mC M]⟩∧aV hp 2=some ⟨.live,S.map bl⟩∧aV hp 3=some ⟨.live,[.own 2 1 0 n true]⟩∧aV hp 4=some ⟨.live,[fnP]⟩
theorem adh (L:Lst)(run:ar)(k:Nat)(fr:List PV)(hp:List Blk)(wr:List Nat)(b row n:Nat)(neg:Bool)(h:XF fr b row n n neg) :
  ∃ fr',af (CC L) run k exL ⟨fr,hp,wr⟩=some (.exit 0,⟨fr',hp,wr⟩)∧XF fr' b row n n neg:=by
 obtain⟨h0,h1,h2,h3,h4,h5,h6,h7,h8,h9⟩:=h
 simp only[iv] at h1 h8 h9
 simp[XF,iv,exL,exC,Tryz.f109,az,af,aJ,ao,aq,aH,ag,ai,aj,an,aF,aC,FP.none,bd,au,bj,aa,ae,ab,h0,h1,h2,h3,h4,h5,h6,h7,h8,h9]
theorem af0 (L:Lst)(run:ar)(k:Nat)(fr:List PV)(hp:List Blk)(wr:List Nat)(b row n i:Nat)(neg:Bool)(hi:i<n)(h:XF fr b row n i neg) :
  ∃ fr1 fr2,af (CC L) run k adn ⟨fr,hp,wr⟩=some (.normal,⟨fr1,hp,wr⟩)∧af (CC L) run k adm ⟨fr1,hp,wr⟩=some (.normal,⟨fr1,hp,wr⟩)∧af (CC L) run k Zy ⟨fr1,hp,wr⟩=some (.normal,⟨fr2,hp,wr⟩)∧XF fr2 b row n i neg∧nth fr2 8=iv i:=by
 obtain⟨h0,h1,h2,h3,h4,h5,h6,h7,h8,h9⟩:=h
 simp only[iv] at h1 h8 h9
 refine⟨fm fr 18 (.sc (.bool true)),?_⟩
 simp[XF,iv,adn,adm,Zy,ow,blk,seq1,cA,exL,exC,Tryz.f109,az,af,aJ,ao,aq,aH,ag,ai,aj,an,aF,FP.none,bd,au,bj,aa,ae,ab,and_assoc,ez,h0,h1,h2,h3,h4,h5,h6,h7,h8,h9,hi]
theorem SK (n i:Nat)(hi:i<n):bc TT 140 (.own 2 1 0 n true) (.sc (.int .i64 (i:Int)))=some (.ptr 2 i):=by
 simp only[bc,Eu,bm,sB,hi,and_self,if_true,Nat.zero_add,Nat.mul_one]
theorem Ja (L:Lst)(run:ar)(k:Nat)(fr:List PV)(hp:List Blk)(wr:List Nat)(b row n i:Nat)(neg:Bool)(M:List (List Rat))(S:List Bool)(hi:i<n)(hS:S.length=n)(v:Bool)(hv:S.getD i false=v)(h:XF fr b row n i neg)(h8':nth fr 8=iv i)(hh:H0 hp M n S) :
  ∃ fr',af (CC L) run k Zx ⟨fr,hp,wr⟩=some (bif v then .exit 1 else .normal,⟨fr',hp,wr⟩)∧XF fr' b row n i neg∧nth fr' 8=iv i:=by
 obtain⟨h0,h1,h2,h3,h4,h5,h6,h7,h8,h9⟩:=h
 obtain⟨k0,k2,k3,k4⟩:=hh
 have hx:=SK n i hi
 have hd:=kE (e:=bl) S i (by omega)
 have hv':S[i]'(by omega)=v:=by rw[← hv,List.getD_eq_getElem?_getD,List.getElem?_eq_getElem (by omega)];rfl
 rw[hv'] at hd
 simp only[iv] at h1 h8 h9 h8'
 simp only[bl] at hd
 have k2':aV hp 2=some ⟨.live,S.map fun b=>.sc (.bool b)⟩:=k2
 have hd':(br (S.map fun b=>(PV.sc (.bool b))) i).head?=some (.sc (.bool v)):=hd
 generalize (S.map fun b=>(PV.sc (.bool b)))=cs at *
 cases v <;> simp[XF,iv,Zx,ow,blk,seq1,cA,exL,exC,Tryz.f109,az,af,aJ,ao,aq,aH,ag,ai,aj,an,aF,FP.none,partOf,aa,ae,ab,bh,and_assoc,ez,h0,h1,h2,h3,h4,h5,h6,h7,h8,h9,h8',k2',k3,hx,hd',AQ,uK,aB,sB,aU,br]
theorem af1 (L:Lst)(run:ar)(k:Nat)(fr:List PV)(hp:List Blk)(wr:List Nat)(b row n i:Nat)(neg:Bool)(M:List (List Rat))(S:List Bool)(hr:row<M.length)(hi:i<M[row].length)(v:Bool)(gs:aA L run 49 [.agg (rcs M[row][i])] (Ab.bJ (kV M[row][i])))(hv:(kV M[row][i] != 0)=v)(h:XF fr b row n i neg)(h8':nth fr 8=iv i)(hh:H0 hp M n S) :
  ∃ fr1 fr',af (CC L) run k Zw ⟨fr,hp,wr⟩=some (.normal,⟨fr1,bO (aO hp rz) hp.length ⟨.live,rcs M[row][i]⟩,aC [hp.length] (aC [hp.length] wr)⟩)∧af (CC L) run k Th ⟨fr1,bO (aO hp rz) hp.length ⟨.live,rcs M[row][i]⟩,aC [hp.length] (aC [hp.length] wr)⟩=some (.normal,⟨fr',bO (aO hp rz) hp.length ⟨.live,rcs M[row][i]⟩,aC [hp.length] (aC [hp.length] wr)⟩)∧XF fr' b row n i neg∧nth fr' 8=iv i∧nth fr' 9 = .ptr hp.length 0∧nth fr' 33 = .sc (.bool v):=by
 obtain⟨h0,h1,h2,h3,h4,h5,h6,h7,h8,h9⟩:=h
 obtain⟨k0,k2,k3,k4⟩:=hh
 obtain⟨r,x1,x2⟩:=ae5 M row hr
 obtain⟨r',y1,y2⟩:=m9 false M[row] i hi
 rw[show eu false M[row]=vR M[row] from rfl] at y1
 have hx:=al1 hp rz
 have hx1:=ee rz (rcs M[row][i]) (by rw[cG.len];rfl)
 have hx2:=al2 hp rz ⟨.live,rcs M[row][i]⟩
 have hx4:=ed (rcs M[row][i]) (cG.len _)
 have hokx:=cG.okc M[row][i]
 have hlx:=cG.len M[row][i]
 unfold aA at gs
 simp only[Ab.bJ] at gs
 generalize kV M[row][i]=sg at *
 generalize rcs M[row][i]=cx at *
 generalize M[row]=R at *
 simp only[iv] at h1 h8 h9 h8'
 have zR':=zRz
 obtain⟨fr1,a1,a2,a3,a4,a5,a6,a7,a8,a9,a10,a11,a12,a13⟩:∃ fr1,af (CC L) run k Zw ⟨fr,hp,wr⟩=some (.normal,⟨fr1,bO (aO hp rz) hp.length ⟨.live,cx⟩,aC [hp.length] (aC [hp.length] wr)⟩)∧fr1.length=56∧nth fr1 0 = .sc (.int .i64 (row:Int))∧nth fr1 1 = .ptr 0 0∧nth fr1 2 = .ptr 3 0∧nth fr1 3 = .ptr 4 0∧nth fr1 5 = .ptr b 0∧nth fr1 6 = .ptr (b+1) 0∧nth fr1 7 = .sc (.bool neg)∧nth fr1 16 = .sc (.int .i64 (n:Int))∧nth fr1 17 = .sc (.int .i64 (i:Int))∧nth fr1 8 = .sc (.int .i64 (i:Int))∧nth fr1 9 = .ptr hp.length 0:=by
  simp[Zw,nm,ow,blk,seq1,cA,exL,exC,Tryz.f109,az,af,aJ,ao,aq,aH,ag,ai,aj,an,aF,FP.none,partOf,aa,ae,ab,bh,bn,ez,h0,h1,h2,h3,h4,h5,h6,h7,h8,h9,h8',k0,x1,x2,y1,y2,hx,hx1,hokx,hlx,Jt,Iq,UJ,pA,aR,sR,zR',aU,br]
 refine⟨fr1,?_⟩
 rw[a1]
 simp[XF,iv,Th,nm,ow,blk,seq1,cA,exL,exC,Tryz.f109,az,af,aJ,ao,aq,aH,ag,ai,aQ,aj,an,aF,FP.none,bd,au,bj,aw,partOf,aa,ae,ab,bh,and_assoc,ez,a2,a3,a4,a5,a6,a7,a8,a9,a10,a11,a12,a13,gs,hv,hx2,hx4,aR,sR,aU,br]
theorem aaB (L:Lst)(run:ar)(k:Nat)(fr:List PV)(hp:List Blk)(wr:List Nat)(b row n i:Nat)(neg:Bool)(h:XF fr b row n i neg) :
  ∃ fr',af (CC L) run k Jf ⟨fr,hp,wr⟩=some (.normal,⟨fr',hp,wr⟩)∧XF fr' b row n i (!neg):=by
 obtain⟨h0,h1,h2,h3,h4,h5,h6,h7,h8,h9⟩:=h
 simp only[iv] at h1 h8 h9
 simp[XF,iv,Jf,ow,blk,seq1,cA,exL,exC,Tryz.f109,az,af,aJ,ao,aq,aH,ag,ai,aj,an,aF,FP.none,unP,aa,ae,ab,ez,h0,h1,h2,h3,h4,h5,h6,h7,h8,h9]
theorem afb (L:Lst)(run:ar)(k:Nat)(fr:List PV)(hp:List Blk)(wr:List Nat)(b row n i:Nat)(neg:Bool)(hi:i<1000)(h:XF fr b row n i neg) :
  ∃ fr',af (CC L) run k Ti ⟨fr,hp,wr⟩=some (.normal,⟨fr',hp,wr⟩)∧XF fr' b row n (i+1) neg:=by
 obtain⟨h0,h1,h2,h3,h4,h5,h6,h7,h8,h9⟩:=h
 have hw:=bE i (by omega)
 simp only[iv] at h1 h8 h9
 simp[XF,iv,Ti,cA,exL,exC,Tryz.f109,az,af,aJ,ao,aq,aH,ag,ai,aj,an,aF,FP.none,bd,au,bj,aw,aa,ae,ab,ez,h0,h1,h2,h3,h4,h5,h6,h7,h8,h9,hw]
theorem Wr (L:Lst)(k0:Nat)(hp:List Blk)(v:PV)(X:List Rat)(k b:Nat)(s:Int)(hv:eg hp v X)(hk:k<X.length)(hb:aV hp b=some ⟨.live,[iv k]⟩)(g:aA L (runK (CC L) k0) 49 [.agg (rcs X[k])] (Ab.bJ s)):runK (CC L) (k0+1) 53 [v,.ptr b 0] hp=some ([.sc (.bool (s != 0))],hp,[]):=by
 obtain⟨st,x1,x2,x3,x4⟩:=Pc L (runK (CC L) k0) k0 hp v X k b s hv hk hb g
 have:=jb Ed rfl x1 x4
 rw[x2,x3] at this
 exact this
theorem Pd (L:Lst)(k0:Nat)(hp:List Blk)(v:PV)(X:List Rat)(k b:Nat)(s:Int)(hv:eg hp v X)(hk:k<X.length)(hb:aV hp b=some ⟨.live,[iv k]⟩)(g:aA L (runK (CC L) k0) 49 [.agg (rcs X[k])] (Ab.bJ s))(dr:Bool):cg (CC L) (runK (CC L) (k0+1)) dr hp 53 [v,.ptr b 0]=some (.sc (.bool (s != 0)),hp,⟨[],[],true,true⟩) :=
 lH J2 (Wr L k0 hp v X k b s hv hk hb g) rfl dr
noncomputable def vfC:Code:=Tryz.f52.body.getD .skip
noncomputable def vfB:Code:=(az vfC).getD .skip
def VfF (fr:List PV)(p f:PV)(n i:Nat):Prop:=fr.length=19∧nth fr 0=p∧nth fr 1=f∧nth fr 7=iv n∧nth fr 8=iv i
theorem N4 (L:Lst)(run:ar)(k:Nat)(fr:List PV)(hp:List Blk)(p f:PV)(n:Nat)(h:VfF fr p f n n) :
  ∃ fr',af (CC L) run k vfB ⟨fr,hp,[]⟩=some (.exit 0,⟨fr',hp,[]⟩)∧fr'.length=19:=by
 obtain⟨h0,h1,h2,h7,h8⟩:=h
 simp only[iv] at h7 h8
 simp[vfB,vfC,Tryz.f52,az,af,aJ,ao,aq,aH,ag,ai,aj,an,aF,aC,FP.none,bd,au,bj,aa,ab,h0,h7,h8]
theorem N2 (L:Lst)(run:ar)(k:Nat)(fr:List PV)(hp:List Blk)(mid off n:Nat)(x:Bool)(ps:List PV)(g:Nat)(caps:List PV)(i:Nat)(w:PV)(v:Bool)(hi:i<n)(h9:n<1000000)(hm:aV hp mid=some ⟨.live,ps⟩)(hd:(br ps (off+i)).head?=some w)(hok:dw w=true)(hc:∀ dr,cg (CC L) run dr hp g ([w]++caps)=some (.sc (.bool v),hp,⟨[],[],true,true⟩))(h:VfF fr (.own mid 1 off n x) (.clos g caps) n i) :
  ∃ fr',af (CC L) run k vfB ⟨fr,hp,[]⟩=some (bif v then .ret else .normal,⟨fr',hp,[]⟩)∧(v=true→nth fr' 4=iv i)∧(v=false→VfF fr' (.own mid 1 off n x) (.clos g caps) n (i+1)):=by
 obtain⟨h0,h1,h2,h7,h8⟩:=h
 have x1:bc TT 80 (.own mid 1 off n x) (.sc (.int .i64 (i:Int)))=some (.ptr mid (off+i)):=by
  simp only[bc,kQ,bm,pA,hi,if_true,Nat.mul_one,and_self]
 have hw:=bE i (by omega)
 simp only[iv] at h7 h8
 simp only[List.cons_append,List.nil_append] at hc
 cases v <;> simp[VfF,iv,vfB,vfC,Tryz.f52,az,af,aJ,ao,aq,aH,ag,ai,aQ,aj,an,aF,aC,FP.none,bd,au,bj,aw,partOf,aa,ae,ab,bh,h0,h1,h2,h7,h8,hi,x1,hm,hd,hc,hw,UJ,pA,aU]
end Go.Proofs.YtjdmodeenbdfpaaGreat
