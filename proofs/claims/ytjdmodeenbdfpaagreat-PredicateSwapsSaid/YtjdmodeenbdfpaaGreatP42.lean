/- Contracts of fractions, clouds and predicates, part 42 of the proof; each lemma states its own conditions. -/
import Derived.Test.YtjdmodeenbdfpaaGreatP41
set_option linter.unusedSimpArgs false
set_option linter.unusedVariables false
namespace Go.Proofs.YtjdmodeenbdfpaaGreat
open Go Go.Ab
theorem Jz (L:Lst)(run:aq)(k:Nat)(X:List (List Rat))(l:List Nat)(V:List Rat)(h9:l.length≤1000)(hl:∀ i ∈ l,∃ h:i<X.length,av L run 59 [qL X[i]] (dc true X[i])∧av L run 60 [dc true X[i],dc true V] (dc true (eo X[i] V))):∀ (n i:Nat) (fr:List PV) (hp:List Blk) (wr:List Nat) (out:List (List Rat)),i+n=l.length→out=(l.take i).map (fun j=>eo (X.getD j []) V)→gE 1 eT 0 hp out (nth fr 6)→DfF fr X l V i →
  ∃ fr' hp' wr',bX (af (CC L) run k dfB) (n+1) ⟨fr,hp,wr⟩=some (.exit 0,⟨fr',hp',wr'⟩)∧fr'.length=35∧gE 1 eT 0 hp' (l.map (fun j=>eo (X.getD j []) V)) (nth fr' 6)
 | 0,i,fr,hp,wr,out,hin,ho,hO,h=>by
  have e:i=l.length:=by omega
  subst e
  obtain⟨fr',q1,q2,q3⟩:=acz L run k fr hp wr X l V h
  refine⟨fr',hp,wr,bw q1,q2,?_⟩
  rw[List.take_length] at ho
  rw[q3,← ho]
  exact hO
 | n+1,i,fr,hp,wr,out,hin,ho,hO,h=>by
  have hi:i<l.length:=by omega
  obtain⟨hX,g1,g2⟩:=hl l[i] (List.getElem_mem hi)
  obtain⟨fr1,hp1,wr1,q1,q2,q3⟩:=Tw L run k fr hp wr X l V i out hi h9 (by rw[ho];simp;omega) hX g1 g2 hO h
  obtain⟨fr',hp',wr',s1,s2⟩:=Jz L run k X l V h9 hl n (i+1) fr1 hp1 wr1 _ (by omega) (by
   rw[ho,List.take_succ_eq_append_getElem hi,List.map_append,List.map_cons,List.map_nil,List.getD_eq_getElem?_getD,List.getElem?_eq_getElem hX];rfl) q3 q2
  exact⟨fr',hp',wr',by rw[bV q1];exact s1,s2⟩
noncomputable def YT:Code:=seq1 (seq1 (ah 3 dfC))
theorem acx:ah 3 dfC = .seq (.seq YT (.block 0 (.loop dfB))) (ah 4 dfC):=rfl
theorem adH (hp:List Blk)(j:Nat)(l:List Nat):dA TT hp 24 (aN (j::l)) (some (.sc (.int .i64 1))) none none=some (aN l):=by
 have h1:aN (j::l) = .imm (l.length+1) false (.sc (.int .i64 (Int.ofNat j))::(l.map Int.ofNat).flatMap ei):=by
  simp[aN,aE,gB,ei]
 have h2:aN l = .imm l.length false ((l.map Int.ofNat).flatMap ei):=by simp[aN,aE,gB]
 have h3:((l.map Int.ofNat).flatMap ei).length=l.length:=by
  have:=aco.toEl.length (l.map Int.ofNat)
  simpa using this
 rw[h1,h2]
 have ht:bA ((l.map Int.ofNat).flatMap ei) l.length=some ((l.map Int.ofNat).flatMap ei):=by
  rw[dL (by omega),← h3,List.take_length]
 simp[dA,nP,iz,sI,bnd,fF,Zo,gl,h3,bn,ht]
theorem acy (L:Lst)(run:aq)(k:Nat)(X:List (List Rat))(j:Nat)(l:List Nat)(hj:j<X.length)(g:av L run 59 [qL X[j]] (dc true X[j])) :
  ∃ fr fr',aY (CC L) run k 3 dfC ⟨entry 35 [qC X,aN (j::l)],[],[]⟩=some ⟨fr,[],[]⟩∧af (CC L) run k YT ⟨fr,[],[]⟩=some (.normal,⟨fr',[],[]⟩)∧DfF fr' X l X[j] 0∧nth fr' 6 = .sc (.slice none 0 0):=by
 obtain⟨e1,e2,e3⟩:=cA 33 (qC X) (aN (j::l))
 generalize entry 35 [qC X,aN (j::l)]=fr0 at *
 have hX':j<(X.map fun P=>P.map qb).length:=by simpa using hj
 obtain⟨r',y1,y2⟩:=je uCl (X.map fun P=>P.map qb) j hX'
 obtain⟨r,x1,x2⟩:=Ja ((j::l).map Int.ofNat) 0 (by simp)
 have e4:pE (X.map fun P=>P.map qb)[j]=qL X[j]:=by rw[List.getElem_map];rfl
 rw[e4] at y2
 rw[show ((j::l).map Int.ofNat)[0]'(by simp)=(j:Int) from rfl] at x2
 rw[show aE ((j::l).map Int.ofNat)=aN (j::l) from rfl,show (((0:Nat):Int))=(0:Int) from rfl] at x1
 rw[show cE (X.map fun P=>P.map qb)=qC X from rfl] at y1
 have hsl:=fun hp=>adH hp j l
 have hl:eM (aN l)=some l.length:=by simp[aN,aE,gB,eM]
 unfold av at g
 obtain⟨fr,a1,a2,a3,a4,a5,a6⟩:∃ fr,aY (CC L) run k 3 dfC ⟨fr0,[],[]⟩=some ⟨fr,[],[]⟩∧fr.length=35∧nth fr 0=qC X∧nth fr 1=aN (j::l)∧nth fr 5=dc true X[j]∧nth fr 6 = .sc (.slice none 0 0):=by
  simp[dfC,Tryz.f51,aY,e1,e2,e3,af,aH,an,ao,aG,ag,ai,aP,aj,ak,aC,az,FP.none,au,partOf,aa,ae,ab,bf,x1,x2,y1,y2,g,aI,sI,aPt,sPt,aU]
 refine⟨fr,?_⟩
 rw[a1]
 obtain⟨cs,hal⟩:∃ cs,aN (j::l) = .imm (l.length+1) false cs:=⟨_,by simp only[aN,aE,gB,List.length_map,List.length_cons];rfl⟩
 rw[hal] at a4
 simp only[hal] at hsl
 simp[DfF,iv,YT,seq1,ah,dfC,Tryz.f51,a2,a3,a4,a5,a6,af,aH,an,ao,aG,ag,ai,aj,ak,aC,az,FP.none,au,bH,aa,ae,ab,bf,and_assoc,hsl,hl,nP]
theorem YS (L:Lst)(run:aq)(k:Nat)(fr:List PV)(hp:List Blk)(wr:List Nat)(p:PV)(h0:fr.length=35)(h3:nth fr 6=p):∃ st,af (CC L) run k (ah 4 dfC) ⟨fr,hp,wr⟩=some (.ret,st)∧st.hp=hp∧aZ TT st.fr st.hp Tryz.f51.results.toList=some [p]:=by
 simp[dfC,ah,Tryz.f51,h0,h3,af,aH,an,ao,aG,ag,ai,aj,ak,aC,az,FP.none,aa,ab,aZ]
theorem Q2 {α:Type}{s:Nat}{e:α→List PV}(he:El s e){b:Nat}{hp:List Blk}{l:List α}{p:PV}(h:gE s e b hp l p):∃ rs ids,bm (snap hp bh) [p]=some (rs,ids)∧WkL rs [gB e l]:=by
 obtain⟨hb,h⟩:=h
 rcases h with ⟨rfl,rfl⟩| ⟨id,m,x,hid,_,rfl,_,h⟩
 ·exact⟨[.sc (.slice none 0 0)],[],rfl,Wk.nil false,trivial⟩
 ·have ht:bA (bn ((l++m).flatMap e) 0) (l.length*s)=some (l.flatMap e):=by
   rw[cK,List.drop_zero,qm he]
  have h1:Ab.snap hp (11+1) (.own id s 0 l.length x)=some (.imm l.length x (l.flatMap e),[id]):=by
   rw[Ab.snap]
   simp only[h]
   rw[if_neg (by simp),ht]
   simp only[he.sns hp 10 l]
  refine⟨[.imm l.length x (l.flatMap e)],[id],?_,?_,trivial⟩
  ·show bm (snap hp 12) _=_
   simp only[bm,h1]
   rfl
  ·cases x
   ·exact Wk.refl (by simp[PV.ct])
   ·exact Wk.imm _ _ _
noncomputable def LR4:Lst:=[(59,AF),(60,IM),(61,IT)]
theorem ac2:dK base.P LR4:=⟨vr,yF,yJ,trivial⟩
abbrev XN:=List (List Rat) × List Nat
def UW (m:Nat)(k:Nat)(X:List (List Rat)):Prop:=∀ P ∈ X,P.length=m∧RbL k P
theorem aa3 {X Y:List (List Rat)}(h:qC X=qC Y):X=Y:=by
 have h1:=A5 h
 clear h
 induction X generalizing Y with
 | nil=>cases Y with
  | nil=>rfl
  | cons b Y=>simp at h1
 | cons a X ih=>cases Y with
  | nil=>simp at h1
  | cons b Y =>
   simp only[List.map_cons,List.cons.injEq] at h1
   rw[QS (X:=a) (Y:=b) (by unfold qL;rw[h1.1]),ih h1.2]
theorem acV {p q:List Nat}(h:aN p=aN q):p=q:=by
 have h1:=HE h
 exact List.map_inj_right (fun x y h=>Int.ofNat.inj h) |>.1 h1
noncomputable def Gx:List PV→Option (List PV):=ctr (fun p:XN=>[qC p.1,aN p.2]) (fun p=>p.2≠[]∧p.2.length≤1000∧(∀ i ∈ p.2,i<p.1.length)∧∃ m,m≤1000∧UW m 1000 p.1) fun p=>[mT (eh p.1 p.2)]
theorem Gw:Ab.Spec base.P 51 Gx:=Ab.Spec.bL (C:=CC LR4) (cU ac2) fun args rs h=>by
 obtain⟨⟨X,l⟩,⟨hne,h9,hin,m,hm,hE⟩,rfl,rfl⟩:=dj h
 dsimp only at hne h9 hin hE
 cases l with
 | nil=>exact absurd rfl hne
 | cons j l =>
  have hj:=hin j List.mem_cons_self
  have hEj:=hE _ (List.getElem_mem hj)
  obtain⟨fr,fr1,a1,a2,a3,a4⟩:=acy LR4 (runK (CC LR4) (l.length+1)) (l.length+1) X j l hj (tM rfl _ _ hEj.2 (by omega))
  obtain⟨fr2,hp2,wr2,b1,b2,b3⟩:=Jz LR4 (runK (CC LR4) (l.length+1)) (l.length+1) X l X[j] (by simp at h9;omega) (fun i hi=>by
   have h1:=hin i (List.mem_cons_of_mem _ hi)
   have hEi:=hE _ (List.getElem_mem h1)
   exact⟨h1,tM rfl _ _ hEi.2 (by omega),UL rfl _ true true _ _ hEi.2 hEj.2 (by omega) (by omega) (by omega) (by omega)⟩) l.length 0 fr1 [] [] [] (by omega) rfl (by rw[a4];exact gE.nil (Nat.le_refl _)) a3
  have hL:af (CC LR4) (runK (CC LR4) (l.length+1)) (l.length+1) (.seq YT (.block 0 (.loop dfB))) ⟨fr,[],[]⟩=some (.normal,⟨fr2,hp2,wr2⟩):=by
   rw[aw a2];exact bE b1
  obtain⟨st,c1,c2,c3⟩:=YS LR4 (runK (CC LR4) (l.length+1)) (l.length+1) fr2 hp2 wr2 _ b2 rfl
  have hx:af (CC LR4) (runK (CC LR4) (l.length+1)) (l.length+1) dfC ⟨entry 35 [qC X,aN (j::l)],[],[]⟩=some (.ret,st):=by
   rw[aO 3 a1,acx,aw hL,c1]
  obtain⟨rs,ids,d1,d2⟩:=Q2 aev b3
  refine⟨_,_,_,_,rs,ids,aQ HU rfl hx c3,by rw[c2];exact d1,?_⟩
  have e:(eh X (j::l))=l.map (fun i=>eo (X.getD i []) X[j]):=by
   unfold eh
   simp only[List.tail_cons,List.headD_cons,List.getD_eq_getElem?_getD,List.getElem?_eq_getElem hj,Option.getD_some]
  show WkL rs [mT (eh X (j::l))]
  rw[e]
  exact d2
theorem Zv {L:Lst}(hL:bt L 51=fun a=>Gx (aJ a))(run:aq)(X:List (List Rat))(l:List Nat)(hne:l≠[])(h9:l.length≤1000)(hin:∀ i ∈ l,i<X.length){m k:Nat}(hm:m≤1000)(hk:k≤1000)(hE:UW m k X):av L run 51 [qC X,aN l] (mT (eh X l)) :=
 jf OH (e:=fun p:XN=>[qC p.1,aN p.2]) (f:=fun p=>[mT (eh p.1 p.2)]) hL (fun x y _ _ h=>by
  simp only[List.cons.injEq,and_true] at h
  rw[Prod.ext (aa3 h.1) (acV h.2)]) run (X,l) ⟨hne,h9,hin,m,hm,fun P hP=>⟨(hE P hP).1,fun x hx=>((hE P hP).2 x hx).mono hk⟩⟩ (fun _=>rfl) (by simp only[aJ,qC,aN,mM,wS])
def exS (f:Nat→Rat)(r:List Rat)(S:List Bool):Nat→Option Rat × Bool
 | 0=>(none,false)
 | i+1=>if S.getD i false=true then exS f r S i else if r.getD i 0=0 then ((exS f r S i).1, !(exS f r S i).2) else
   (some (vv (exS f r S i).1+(bif (exS f r S i).2 then -(r.getD i 0*f i) else r.getD i 0*f i)), !(exS f r S i).2)
def exU (n:Nat):List (List Rat)→List Bool→Option Rat
 | [],_=>some 1
 | r::rs,S=>(exS (fun k=>vv (exU n rs (S.set k true))) r S n).1
def exB (n k:Nat):Nat→Nat
 | 0=>1
 | d+1=>n*(k+exB n k d+1)+1
theorem G9 {f:Nat→Rat}{r:List Rat}{S:List Bool}{k b:Nat}(hf:∀ i,Rb b (f i))(hr:RbL k r)(hk:0<k):∀ i,Rb (i*(k+b+1)+1) (vv (exS f r S i).1)
 | 0=>Rb.zero _
 | i+1=>by
  have ih:=G9 hf hr hk i (S:=S)
  have e:(i+1)*(k+b+1)=i*(k+b+1)+(k+b+1):=Nat.succ_mul i _
  have hx:Rb k (r.getD i 0):=by
   rw[List.getD_eq_getElem?_getD]
   cases h:r[i]? with
   | none=>exact (Rb.zero 0).mono (by omega)
   | some x=>exact hr x (List.mem_of_getElem? h)
  unfold exS
  by_cases h1:S.getD i false=true
  ·rw[if_pos h1];exact ih.mono (by rw[e];omega)
  ·rw[if_neg h1]
   by_cases h2:r.getD i 0=0
   ·rw[if_pos h2];exact ih.mono (by rw[e];omega)
   ·rw[if_neg h2]
    have hm:=hx.mul (hf i)
    have ht:Rb (k+b) (bif (exS f r S i).2 then -(r.getD i 0*f i) else r.getD i 0*f i):=by
     cases (exS f r S i).2
     ·exact hm
     ·exact hm.neg
    exact (ih.add ht).mono (by rw[e];omega)
theorem wy {n k:Nat}(hk:0<k):∀ (rows:List (List Rat)) (S:List Bool),(∀ r ∈ rows,RbL k r)→Rb (exB n k rows.length) (vv (exU n rows S))
 | [],S,_=>Rb.one 0
 | r::rs,S,h=>G9 (fun i=>wy hk rs _ fun r' hr'=>h r' (List.mem_cons_of_mem _ hr')) (h r List.mem_cons_self) hk n
theorem ed (l:List Nat):az [] l=l:=rfl
theorem iM:∀ {l w:List Nat} {i:Nat},i ∈ az l w→i ∈ l∨i ∈ w
 | [],w,i,h=>.inr h
 | a::l,w,i,h=>by
  unfold az at h
  cases hc:w.contains a with
  | true =>
   rw[hc,cond_true] at h
   rcases iM h with h | h
   ·exact .inl (List.mem_cons_of_mem _ h)
   ·exact .inr h
  | false =>
   rw[hc,cond_false] at h
   rcases iM h with h | h
   ·exact .inl (List.mem_cons_of_mem _ h)
   ·rcases List.mem_cons.1 h with h | h
    ·exact .inl (h ▸ List.mem_cons_self)
    ·exact .inr h
theorem kH:∀ {n:Nat} {l:List Nat} {i:Nat},i ∈ jk n l→i ∈ l∧i<n
 | n,a::l,i,h=>by
  unfold jk at h
  cases hc:a.blt n with
  | true =>
   rw[hc,cond_true] at h
   rcases List.mem_cons.1 h with h | h
   ·subst h;rw[Nat.blt_eq] at hc;exact⟨List.mem_cons_self,hc⟩
   ·exact⟨List.mem_cons_of_mem _ (kH h).1,(kH h).2⟩
  | false =>
   rw[hc,cond_false] at h
   exact⟨List.mem_cons_of_mem _ (kH h).1,(kH h).2⟩
theorem tS {hp:List Blk}{n:Nat} : ∀ {l:List Nat},(∀ i ∈ l,∀ b,aV hp i=some b→dT n b.cs=true)→fG hp n l=true
 | [],_=>rfl
 | a::l,h=>by
  unfold fG
  rw[tS fun i hi=>h i (List.mem_cons_of_mem _ hi),Bool.and_true]
  cases e:aV hp a with
  | none=>rfl
  | some b=>exact h a List.mem_cons_self b e
theorem Od {hp hp':List Blk}(hl:hp.length≤hp'.length)(h:∀ i,i<hp.length→aV hp' i=aV hp i):oV hp.length hp'=hp:=by
 rw[l5]
 refine List.ext_getElem? fun i => ?_
 by_cases hi:i<hp.length
 ·rw[List.getElem?_take_of_lt hi,← cj,← cj,h i hi]
 ·rw[List.getElem?_eq_none (by simp;omega),List.getElem?_eq_none (by omega)]
theorem BW {L:Lst}{run:aq}{g:Nat}{args:List PV}{r:PV}{hp hp':List Blk}{w:List Nat}(hs:base.shared g=true)(hr:run g args hp=some ([r],hp',w))(hi:r.ct=true)(hl:hp.length≤hp'.length)(ho:∀ i,i<hp.length→aV hp' i=aV hp i)(hw:∀ i ∈ jk hp.length w,∀ b,aV hp' i=some b→dT hp.length b.cs=true)(dr:Bool):bU (CC L) run dr hp g args=some (r,hp,⟨[],jk hp.length w,true,true⟩):=by
 have hs':(CC L).shared g=true:=hs
 unfold bU
 rw[if_pos hs',hr]
 simp only[bK,hi,tS hw,Bool.and_self,cond_true,gr,Od hl ho]
theorem JK {l:List Nat}{a:Nat}(h:∀ i ∈ l,i=a):l=List.replicate l.length a:=List.eq_replicate_iff.2 ⟨rfl,h⟩
def eV (V:List Rat):List PV:=[vR V]
theorem aew:Ec 1 eV:=cM.list
def mC (M:List (List Rat)):PV:=gB eV M
theorem GY (M:List (List Rat)):eM (mC M)=some M.length:=rfl
theorem ad6 (M:List (List Rat))(i:Nat)(hi:i<M.length):∃ r,ba TT 80 (mC M) (.sc (.int .i64 (i:Int)))=some (.iptr r)∧r.head?=some (vR M[i]):=by
 have h:=pK aew.toEl M i hi
 refine⟨bn (M.flatMap eV) (i*1),?_,by rw[h];rfl⟩
 unfold mC gB
 simp only[ba,tY,bj,O9,hi,if_true]
theorem JL:fN TT 80=some false:=by kernel_rfl
theorem IA:cQ TT 80=some 1:=by kernel_rfl
theorem EP:und TT 140=some (.slice 4):=by kernel_rfl
theorem ux:cQ TT 140=some 1:=by kernel_rfl
theorem Ba:fN TT 140=some false:=by kernel_rfl
def bl (b:Bool):PV:=.sc (.bool b)
theorem zN:base.F.get 109=some Tryz.f109:=by kernel_rfl
theorem Iw:base.shared 109=true:=by kernel_rfl
theorem sFn:cQ TT 141=some 1:=by kernel_rfl
theorem aFn:fN TT 141=some false:=by kernel_rfl
noncomputable def exC:Code:=Tryz.f109.body.getD .skip
noncomputable def exL:Code:=(aF exC).getD .skip
noncomputable def acg:Code:=seq1 exL
noncomputable def acf:Code:=seq1 (cu exL)
noncomputable def nO:Code:=blk (seq1 (cu (cu exL)))
noncomputable def Tb:Code:=cu (cu (cu exL))
noncomputable def YI:Code:=seq1 nO
noncomputable def YH:Code:=seq1 (cu nO)
noncomputable def mF:Code:=seq1 (cu (cu nO))
noncomputable def Ju:Code:=cu (cu (cu nO))
noncomputable def YG:Code:=seq1 mF
noncomputable def Ta:Code:=seq1 (cu mF)
def DS:Code→Code
 | .cond _ a _=>a
 | c=>c
noncomputable def exT:Code:=DS (cu (cu mF))
noncomputable def SZ:Code:=seq1 exT
noncomputable def zk:Code:=seq1 (cu exT)
noncomputable def SY:Code:=seq1 (cu (cu exT))
noncomputable def zj:Code:=seq1 (cu (cu (cu exT)))
noncomputable def SX:Code:=cu (cu (cu (cu exT)))
theorem ace:exL = .seq acg (.seq acf (.seq (.block 1 (.seq YI (.seq YH (.seq mF Ju)))) Tb)):=rfl
theorem Jt:mF = .seq YG (.seq Ta (.cond (.tmp 33) exT .skip)):=rfl
theorem acd:exT = .seq SZ (.seq zk (.seq SY (.seq zj SX))):=rfl
def XF (fr:List PV)(b row n i:Nat)(neg:Bool):Prop:=fr.length=56∧nth fr 0=iv row∧nth fr 1 = .ptr 0 0∧nth fr 2 = .ptr 3 0∧nth fr 3 = .ptr 4 0∧nth fr 5 = .ptr b 0∧nth fr 6 = .ptr (b+1) 0∧nth fr 7 = .sc (.bool neg)∧nth fr 16=iv n∧nth fr 17=iv i
def fnP:PV:=.clos 109 [.ptr 0 0,.ptr 3 0,.ptr 4 0]
def H0 (hp:List Blk)(M:List (List Rat))(n:Nat)(S:List Bool):Prop:=aV hp 0=some ⟨.live,[mC M]⟩∧aV hp 2=some ⟨.live,S.map bl⟩∧aV hp 3=some ⟨.live,[.own 2 1 0 n true]⟩∧aV hp 4=some ⟨.live,[fnP]⟩
theorem ab9 (L:Lst)(run:aq)(k:Nat)(fr:List PV)(hp:List Blk)(wr:List Nat)(b row n:Nat)(neg:Bool)(h:XF fr b row n n neg) :
  ∃ fr',af (CC L) run k exL ⟨fr,hp,wr⟩=some (.exit 0,⟨fr',hp,wr⟩)∧XF fr' b row n n neg:=by
 obtain⟨h0,h1,h2,h3,h4,h5,h6,h7,h8,h9⟩:=h
 simp only[iv] at h1 h8 h9
 simp[XF,iv,exL,exC,Tryz.f109,aF,af,aH,an,ao,aG,ag,ai,aj,ak,aC,az,FP.none,bc,ar,bd,aa,ae,ab,h0,h1,h2,h3,h4,h5,h6,h7,h8,h9]
theorem afd (L:Lst)(run:aq)(k:Nat)(fr:List PV)(hp:List Blk)(wr:List Nat)(b row n i:Nat)(neg:Bool)(hi:i<n)(h:XF fr b row n i neg) :
  ∃ fr1 fr2,af (CC L) run k acg ⟨fr,hp,wr⟩=some (.normal,⟨fr1,hp,wr⟩)∧af (CC L) run k acf ⟨fr1,hp,wr⟩=some (.normal,⟨fr1,hp,wr⟩)∧af (CC L) run k YI ⟨fr1,hp,wr⟩=some (.normal,⟨fr2,hp,wr⟩)∧XF fr2 b row n i neg∧nth fr2 8=iv i:=by
 obtain⟨h0,h1,h2,h3,h4,h5,h6,h7,h8,h9⟩:=h
 simp only[iv] at h1 h8 h9
 refine⟨jh fr 18 (.sc (.bool true)),?_⟩
 simp[XF,iv,acg,acf,YI,nO,blk,seq1,cu,exL,exC,Tryz.f109,aF,af,aH,an,ao,aG,ag,ai,aj,ak,aC,FP.none,bc,ar,bd,aa,ae,ab,and_assoc,ed,h0,h1,h2,h3,h4,h5,h6,h7,h8,h9,hi]
theorem SB (n i:Nat)(hi:i<n):ba TT 140 (.own 2 1 0 n true) (.sc (.int .i64 (i:Int)))=some (.ptr 2 i):=by
 simp only[ba,EP,bj,sB,hi,and_self,if_true,Nat.zero_add,Nat.mul_one]
theorem Jp (L:Lst)(run:aq)(k:Nat)(fr:List PV)(hp:List Blk)(wr:List Nat)(b row n i:Nat)(neg:Bool)(M:List (List Rat))(S:List Bool)(hi:i<n)(hS:S.length=n)(v:Bool)(hv:S.getD i false=v)(h:XF fr b row n i neg)(h8':nth fr 8=iv i)(hh:H0 hp M n S) :
  ∃ fr',af (CC L) run k YH ⟨fr,hp,wr⟩=some (bif v then .exit 1 else .normal,⟨fr',hp,wr⟩)∧XF fr' b row n i neg∧nth fr' 8=iv i:=by
 obtain⟨h0,h1,h2,h3,h4,h5,h6,h7,h8,h9⟩:=h
 obtain⟨k0,k2,k3,k4⟩:=hh
 have hx:=SB n i hi
 have hd:=jC (e:=bl) S i (by omega)
 have hv':S[i]'(by omega)=v:=by rw[← hv,List.getD_eq_getElem?_getD,List.getElem?_eq_getElem (by omega)];rfl
 rw[hv'] at hd
 simp only[iv] at h1 h8 h9 h8'
 simp only[bl] at hd
 have k2':aV hp 2=some ⟨.live,S.map fun b=>.sc (.bool b)⟩:=k2
 have hd':(bn (S.map fun b=>(PV.sc (.bool b))) i).head?=some (.sc (.bool v)):=hd
 generalize (S.map fun b=>(PV.sc (.bool b)))=cs at *
 cases v <;> simp[XF,iv,YH,nO,blk,seq1,cu,exL,exC,Tryz.f109,aF,af,aH,an,ao,aG,ag,ai,aj,ak,aC,FP.none,partOf,aa,ae,ab,bf,and_assoc,ed,h0,h1,h2,h3,h4,h5,h6,h7,h8,h9,h8',k2',k3,hx,hd',Ba,ux,aB,sB,aU,bn]
theorem afe (L:Lst)(run:aq)(k:Nat)(fr:List PV)(hp:List Blk)(wr:List Nat)(b row n i:Nat)(neg:Bool)(M:List (List Rat))(S:List Bool)(hr:row<M.length)(hi:i<M[row].length)(v:Bool)(gs:av L run 49 [.agg (rcs M[row][i])] (Ab.bC (kB M[row][i])))(hv:(kB M[row][i] != 0)=v)(h:XF fr b row n i neg)(h8':nth fr 8=iv i)(hh:H0 hp M n S) :
  ∃ fr1 fr',af (CC L) run k YG ⟨fr,hp,wr⟩=some (.normal,⟨fr1,bP (aM hp rz) hp.length ⟨.live,rcs M[row][i]⟩,az [hp.length] (az [hp.length] wr)⟩)∧af (CC L) run k Ta ⟨fr1,bP (aM hp rz) hp.length ⟨.live,rcs M[row][i]⟩,az [hp.length] (az [hp.length] wr)⟩=some (.normal,⟨fr',bP (aM hp rz) hp.length ⟨.live,rcs M[row][i]⟩,az [hp.length] (az [hp.length] wr)⟩)∧XF fr' b row n i neg∧nth fr' 8=iv i∧nth fr' 9 = .ptr hp.length 0∧nth fr' 33 = .sc (.bool v):=by
 obtain⟨h0,h1,h2,h3,h4,h5,h6,h7,h8,h9⟩:=h
 obtain⟨k0,k2,k3,k4⟩:=hh
 obtain⟨r,x1,x2⟩:=ad6 M row hr
 obtain⟨r',y1,y2⟩:=vY false M[row] i hi
 rw[show dc false M[row]=vR M[row] from rfl] at y1
 have hx:=al1 hp rz
 have hx1:=dZ rz (rcs M[row][i]) (by rw[cM.len];rfl)
 have hx2:=al2 hp rz ⟨.live,rcs M[row][i]⟩
 have hx4:=dY (rcs M[row][i]) (cM.len _)
 have hokx:=cM.okc M[row][i]
 have hlx:=cM.len M[row][i]
 unfold av at gs
 simp only[Ab.bC] at gs
 generalize kB M[row][i]=sg at *
 generalize rcs M[row][i]=cx at *
 generalize M[row]=R at *
 simp only[iv] at h1 h8 h9 h8'
 have zR':=zRz
 obtain⟨fr1,a1,a2,a3,a4,a5,a6,a7,a8,a9,a10,a11,a12,a13⟩:∃ fr1,af (CC L) run k YG ⟨fr,hp,wr⟩=some (.normal,⟨fr1,bP (aM hp rz) hp.length ⟨.live,cx⟩,az [hp.length] (az [hp.length] wr)⟩)∧fr1.length=56∧nth fr1 0 = .sc (.int .i64 (row:Int))∧nth fr1 1 = .ptr 0 0∧nth fr1 2 = .ptr 3 0∧nth fr1 3 = .ptr 4 0∧nth fr1 5 = .ptr b 0∧nth fr1 6 = .ptr (b+1) 0∧nth fr1 7 = .sc (.bool neg)∧nth fr1 16 = .sc (.int .i64 (n:Int))∧nth fr1 17 = .sc (.int .i64 (i:Int))∧nth fr1 8 = .sc (.int .i64 (i:Int))∧nth fr1 9 = .ptr hp.length 0:=by
  simp[YG,mF,nO,blk,seq1,cu,exL,exC,Tryz.f109,aF,af,aH,an,ao,aG,ag,ai,aj,ak,aC,FP.none,partOf,aa,ae,ab,bf,bg,ed,h0,h1,h2,h3,h4,h5,h6,h7,h8,h9,h8',k0,x1,x2,y1,y2,hx,hx1,hokx,hlx,JL,IA,afj,O9,aR,sR,zR',aU,bn]
 refine⟨fr1,?_⟩
 rw[a1]
 simp[XF,iv,Ta,mF,nO,blk,seq1,cu,exL,exC,Tryz.f109,aF,af,aH,an,ao,aG,ag,ai,aP,aj,ak,aC,FP.none,bc,ar,bd,au,partOf,aa,ae,ab,bf,and_assoc,ed,a2,a3,a4,a5,a6,a7,a8,a9,a10,a11,a12,a13,gs,hv,hx2,hx4,aR,sR,aU,bn]
theorem Z0 (L:Lst)(run:aq)(k:Nat)(fr:List PV)(hp:List Blk)(wr:List Nat)(b row n i:Nat)(neg:Bool)(h:XF fr b row n i neg) :
  ∃ fr',af (CC L) run k Ju ⟨fr,hp,wr⟩=some (.normal,⟨fr',hp,wr⟩)∧XF fr' b row n i (!neg):=by
 obtain⟨h0,h1,h2,h3,h4,h5,h6,h7,h8,h9⟩:=h
 simp only[iv] at h1 h8 h9
 simp[XF,iv,Ju,nO,blk,seq1,cu,exL,exC,Tryz.f109,aF,af,aH,an,ao,aG,ag,ai,aj,ak,aC,FP.none,unP,aa,ae,ab,ed,h0,h1,h2,h3,h4,h5,h6,h7,h8,h9]
theorem aen (L:Lst)(run:aq)(k:Nat)(fr:List PV)(hp:List Blk)(wr:List Nat)(b row n i:Nat)(neg:Bool)(hi:i<1000)(h:XF fr b row n i neg) :
  ∃ fr',af (CC L) run k Tb ⟨fr,hp,wr⟩=some (.normal,⟨fr',hp,wr⟩)∧XF fr' b row n (i+1) neg:=by
 obtain⟨h0,h1,h2,h3,h4,h5,h6,h7,h8,h9⟩:=h
 have hw:=bF i (by omega)
 simp only[iv] at h1 h8 h9
 simp[XF,iv,Tb,cu,exL,exC,Tryz.f109,aF,af,aH,an,ao,aG,ag,ai,aj,ak,aC,FP.none,bc,ar,bd,au,aa,ae,ab,ed,h0,h1,h2,h3,h4,h5,h6,h7,h8,h9,hw]
theorem ael:(Region.before (ie zk))[6]?.getD 0=63:=by kernel_rfl
theorem aem:(Region.before (ie zk))[4]?.getD 0=14:=by kernel_rfl
def YF (fr:List PV)(b row n i x:Nat)(neg:Bool):Prop:=XF fr b row n i neg∧nth fr 8=iv i∧nth fr 9 = .ptr x 0
theorem IV (S:List Bool)(i:Nat)(v:Bool)(hi:i<S.length):bZ (S.map bl) i [.sc (.bool v)]=some ((S.set i v).map bl):=jA (e:=bl) S i v hi
theorem aer (L:Lst)(run:aq)(k:Nat)(fr:List PV)(hp:List Blk)(wr:List Nat)(b row n i x:Nat)(neg:Bool)(S:List Bool)(hi:i<n)(hS:S.length=n)(h:YF fr b row n i x neg)(k2:aV hp 2=some ⟨.live,S.map bl⟩)(k3:aV hp 3=some ⟨.live,[.own 2 1 0 n true]⟩) :
  ∃ fr',af (CC L) run k SZ ⟨fr,hp,wr⟩=some (.normal,⟨fr',bP hp 2 ⟨.live,(S.set i true).map bl⟩,az [2] wr⟩)∧YF fr' b row n i x neg:=by
 obtain⟨⟨h0,h1,h2,h3,h4,h5,h6,h7,h8,h9⟩,h10,h11⟩:=h
 have hx:=SB n i hi
 have ho:=IV S i true (by omega)
 simp only[iv] at h1 h8 h9 h10
 generalize S.map bl=cs at *
 generalize (S.set i true).map bl=cs' at *
 simp[YF,XF,iv,SZ,exT,DS,mF,nO,blk,seq1,cu,exL,exC,Tryz.f109,aF,af,aH,an,ao,aG,ag,ai,aj,ak,aC,FP.none,au,partOf,aa,ae,ab,bf,and_assoc,jF,bx,aX,ed,h0,h1,h2,h3,h4,h5,h6,h7,h8,h9,h10,h11,k2,k3,hx,ho,Ba,ux,sB,aU,bn]
theorem aep (L:Lst)(run:aq)(k:Nat)(fr:List PV)(hp:List Blk)(wr:List Nat)(b row n i x:Nat)(neg:Bool)(S:List Bool)(hi:i<n)(hS:S.length=n)(h:YF fr b row n i x neg)(k2:aV hp 2=some ⟨.live,S.map bl⟩)(k3:aV hp 3=some ⟨.live,[.own 2 1 0 n true]⟩) :
  ∃ fr',af (CC L) run k SY ⟨fr,hp,wr⟩=some (.normal,⟨fr',bP hp 2 ⟨.live,(S.set i false).map bl⟩,az [2] wr⟩)∧YF fr' b row n i x neg:=by
 obtain⟨⟨h0,h1,h2,h3,h4,h5,h6,h7,h8,h9⟩,h10,h11⟩:=h
 have hx:=SB n i hi
 have ho:=IV S i false (by omega)
 simp only[iv] at h1 h8 h9 h10
 generalize S.map bl=cs at *
 generalize (S.set i false).map bl=cs' at *
 simp[YF,XF,iv,SY,exT,DS,mF,nO,blk,seq1,cu,exL,exC,Tryz.f109,aF,af,aH,an,ao,aG,ag,ai,aj,ak,aC,FP.none,au,partOf,aa,ae,ab,bf,and_assoc,jF,bx,aX,ed,h0,h1,h2,h3,h4,h5,h6,h7,h8,h9,h10,h11,k2,k3,hx,ho,Ba,ux,sB,aU,bn]
set_option maxHeartbeats 2000000 in
theorem aeq (L:Lst)(run:aq)(k:Nat)(fr:List PV)(hp:List Blk)(wr:List Nat)(b row n i x m:Nat)(neg:Bool)(cx cr cp:List PV)(hlx:cx.length=4)(hlp:cp.length=4)(hop:aX cp=true)(h9':row<1000)(hx2:2≠x)(hcall:bU (CC L) run true hp 109 [.sc (.int .i64 ((row:Int)+1)),.ptr 0 0,.ptr 3 0,.ptr 4 0]=some (.agg cr,hp,⟨[],List.replicate m 2,true,true⟩))(g:av L run 56 [.agg cx,.agg cr] (.agg cp))(h:YF fr b row n i x neg)(k4:aV hp 4=some ⟨.live,[fnP]⟩)(kx:aV hp x=some ⟨.live,cx⟩) :
  ∃ fr',af (CC L) run k zk ⟨fr,hp,wr⟩=some (.normal,⟨fr',bP hp x ⟨.live,cp⟩,az [x] (az (List.replicate m 2) wr)⟩)∧YF fr' b row n i x neg:=by
 obtain⟨⟨h0,h1,h2,h3,h4,h5,h6,h7,h8,h9⟩,h10,h11⟩:=h
 have hw:=bF row (by omega)
 have ht:=dY cx hlx
 have ho:=dZ cx cp (by omega)
 have hb6:=ael
 have hb4:=aem
 simp[zk,exT,DS,mF,nO,blk,seq1,cu,exL,exC,Tryz.f109,aF,ie] at hb6 hb4
 have t0:Nat.testBit 63 0=true:=by decide
 have t1:Nat.testBit 63 1=true:=by decide
 have t4:Nat.testBit 63 4=true:=by decide
 have t5:Nat.testBit 14 1=true:=by decide
 have t6:Nat.testBit 14 0=false:=by decide
 have hx3 : ¬ (2=x):=hx2
 have hx4 : ¬ (x=2):=fun e=>hx2 e.symm
 unfold av at g
 unfold fnP at k4
 simp only[iv] at h1 h8 h9 h10
 simp[-Nat.testBit_zero,hb6,hb4,t0,t1,t4,t5,t6,YF,XF,iv,zk,exT,DS,mF,nO,blk,seq1,cu,exL,exC,Tryz.f109,aF,af,aH,an,ao,aG,ag,ai,aP,aj,ak,aC,FP.none,bc,ar,bd,au,partOf,aa,ae,ab,bf,and_assoc,bg,ed,h0,h1,h2,h3,h4,h5,h6,h7,h8,h9,h10,h11,k4,kx,ht,ho,hw,hcall,g,hop,hlp,hx3,aR,sR,sFn,aFn,aU,bn,number,FP.free,cB,FP.apart]
theorem acb (L:Lst)(run:aq)(k:Nat)(fr:List PV)(hp:List Blk)(wr:List Nat)(b row n i x:Nat)(cx cp:List PV)(hlx:cx.length=4)(hlp:cp.length=4)(hop:aX cp=true)(g:av L run 106 [.agg cx] (.agg cp))(h:YF fr b row n i x true)(kx:aV hp x=some ⟨.live,cx⟩) :
  ∃ fr',af (CC L) run k zj ⟨fr,hp,wr⟩=some (.normal,⟨fr',bP hp x ⟨.live,cp⟩,az [x] wr⟩)∧YF fr' b row n i x true:=by
 obtain⟨⟨h0,h1,h2,h3,h4,h5,h6,h7,h8,h9⟩,h10,h11⟩:=h
 have ht:=dY cx hlx
 have ho:=dZ cx cp (by omega)
 unfold av at g
 simp only[iv] at h1 h8 h9 h10
 simp[YF,XF,iv,zj,exT,DS,mF,nO,blk,seq1,cu,exL,exC,Tryz.f109,aF,af,aH,an,ao,aG,ag,ai,aP,aj,ak,aC,FP.none,partOf,aa,ae,ab,bf,and_assoc,bg,ed,h0,h1,h2,h3,h4,h5,h6,h7,h8,h9,h10,h11,kx,ht,ho,g,hop,hlp,aR,sR,aU,bn]
theorem aca (L:Lst)(run:aq)(k:Nat)(fr:List PV)(hp:List Blk)(wr:List Nat)(b row n i x:Nat)(h:YF fr b row n i x false) :
  ∃ fr',af (CC L) run k zj ⟨fr,hp,wr⟩=some (.normal,⟨fr',hp,wr⟩)∧YF fr' b row n i x false:=by
 obtain⟨⟨h0,h1,h2,h3,h4,h5,h6,h7,h8,h9⟩,h10,h11⟩:=h
 simp only[iv] at h1 h8 h9 h10
 simp[YF,XF,iv,zj,exT,DS,mF,nO,blk,seq1,cu,exL,exC,Tryz.f109,aF,af,aH,an,ao,aG,ag,ai,aj,ak,aC,FP.none,aa,ae,ab,and_assoc,ed,h0,h1,h2,h3,h4,h5,h6,h7,h8,h9,h10,h11]
theorem aeo (L:Lst)(run:aq)(k:Nat)(fr:List PV)(hp:List Blk)(wr:List Nat)(b row n i x:Nat)(neg:Bool)(sc cx cp:List PV)(hls:sc.length=4)(hlx:cx.length=4)(hlp:cp.length=4)(hop:aX cp=true)(g:av L run 87 [.agg sc,.agg cx] (.agg cp))(h:YF fr b row n i x neg)(kx:aV hp x=some ⟨.live,cx⟩)(ks:aV hp (b+1)=some ⟨.live,sc⟩) :
  ∃ fr',af (CC L) run k SX ⟨fr,hp,wr⟩=some (.normal,⟨fr',bP hp (b+1) ⟨.live,cp⟩,az [b+1] wr⟩)∧XF fr' b row n i neg:=by
 obtain⟨⟨h0,h1,h2,h3,h4,h5,h6,h7,h8,h9⟩,h10,h11⟩:=h
 have ht:=dY cx hlx
 have hts:=dY sc hls
 have ho:=dZ sc cp (by omega)
 unfold av at g
 simp only[iv] at h1 h8 h9 h10
 simp[XF,iv,SX,exT,DS,mF,nO,blk,seq1,cu,exL,exC,Tryz.f109,aF,af,aH,an,ao,aG,ag,ai,aP,aj,ak,aC,partOf,aa,ae,ab,bf,bg,ed,h0,h1,h2,h3,h4,h5,h6,h7,h8,h9,h11,kx,ks,ht,hts,ho,g,hop,hlp,aR,sR,aU,bn]
def XH (hp0 hp:List Blk)(sc:List PV):Prop:=hp0.length+2≤hp.length∧(∀ i,i<hp0.length→aV hp i=aV hp0 i)∧aV hp hp0.length=some ⟨.live,rz⟩∧aV hp (hp0.length+1)=some ⟨.live,sc⟩
def WB (b:Nat)(w:List Nat):Prop:=∀ i ∈ w,i=2∨b≤i
theorem WB.add {b:Nat}{w l:List Nat}(h:WB b w)(h':WB b l):WB b (az l w):=fun i hi=>by
 rcases iM hi with hi | hi
 ·exact h' i hi
 ·exact h i hi
theorem WB.one {b x:Nat}(h:x=2∨b≤x):WB b [x]:=fun i hi=>by
 rw[List.mem_singleton] at hi;subst hi;exact h
theorem WB.rep {b m:Nat} : WB b (List.replicate m 2):=fun i hi=>.inl (List.mem_replicate.1 hi).2
theorem l8 {hp:List Blk}{i j:Nat}{b b0:Blk}(h:aV hp i=some b0)(hij:j≠i):aV (bP hp i b) j=aV hp j:=by rw[cD h,if_neg hij]
theorem ob {hp:List Blk}{i:Nat}{b b0:Blk}(h:aV hp i=some b0):aV (bP hp i b) i=some b:=by rw[cD h,if_pos rfl]
theorem O7 (S:List Bool)(i:Nat)(hi:i<S.length)(h:S.getD i false=false):(S.set i true).set i false=S:=by
 rw[List.set_set]
 have:S[i]=false:=by rw[← h,List.getD_eq_getElem?_getD,List.getElem?_eq_getElem hi];rfl
 rw[← this,List.set_getElem_self]
theorem YB (L:Lst)(run:aq)(k:Nat)(gm:bt L 56=fun a=>me (aJ a))(ga:bt L 87=fun a=>iH (aJ a))(gn:bt L 106=fun a=>jO (aJ a))(hp0 hp:List Blk)(fr:List PV)(wr:List Nat)(row n i x:Nat)(neg:Bool)(M:List (List Rat))(S:List Bool)(sc:List PV)(u:Option Rat)(e f:Rat)(cr:List PV)(uf:Option Rat){j k1 k2:Nat}
  (hi:i<n) (hS:S.length=n) (h9':row<1000) (hSi:S.getD i false=false) (h5:5≤hp0.length) (hH:H0 hp0 M n S) (hX:XH hp0 hp sc) (hx:hp0.length+2≤x) (hx':x<hp.length) (kx:aV hp x=some ⟨.live,rcs e⟩) (hY:YF fr hp0.length row n i x neg) (hc:Rc sc u) (hcr:Rc cr uf) (hf:vv uf=f)
  (hb1:Rb j (vv u)) (hb2:Rb k1 e) (hb3:Rb k2 f) (h6:j+k1+k2≤1000000) (hw:WB hp0.length wr)
  (hcall:∀ hp1:List Blk,hp0.length≤hp1.length→(∀ i,i<hp0.length→i≠2→aV hp1 i=aV hp0 i)→aV hp1 2=some ⟨.live,(S.set i true).map bl⟩→∃ m,bU (CC L) run true hp1 109 [.sc (.int .i64 ((row:Int)+1)),.ptr 0 0,.ptr 3 0,.ptr 4 0]=some (.agg cr,hp1,⟨[],List.replicate m 2,true,true⟩)) :
  ∃ fr' hp' wr' sc',af (CC L) run k exT ⟨fr,hp,wr⟩=some (.normal,⟨fr',hp',wr'⟩)∧XF fr' hp0.length row n i neg∧XH hp0 hp' sc'∧WB hp0.length wr'∧Rc sc' (some (vv u+(bif neg then -(e*f) else e*f))):=by
 obtain⟨q1,q2,q3,q4⟩:=hX
 obtain⟨p0,p2,p3,p4⟩:=hH
 have k2':aV hp 2=some ⟨.live,S.map bl⟩:=by rw[q2 2 (by omega),p2]
 have k3':aV hp 3=some ⟨.live,[.own 2 1 0 n true]⟩:=by rw[q2 3 (by omega),p3]
 have k4':aV hp 4=some ⟨.live,[fnP]⟩:=by rw[q2 4 (by omega),p4]
 obtain⟨fr1,a1,a2⟩:=aer L run k fr hp wr hp0.length row n i x neg S hi hS hY k2' k3'
 generalize hg1:bP hp 2 ⟨.live,(S.set i true).map bl⟩=hp1 at *
 have l1:hp1.length=hp.length:=by rw[← hg1,bz]
 have n1:∀ t,t≠2→aV hp1 t=aV hp t:=fun t ht=>by rw[← hg1];exact l8 k2' ht
 have n12:aV hp1 2=some ⟨.live,(S.set i true).map bl⟩:=by rw[← hg1];exact ob k2'
 obtain⟨m,hcm⟩:=hcall hp1 (by omega) (fun t ht ht2=>by rw[n1 t ht2,q2 t ht]) n12
 have SK:=UF gm run (p:=.agg (rcs e)) (q:=.agg cr) (u:=some e) (v:=uf) (.inl rfl) hcr.p hb2 (by rw[hf];exact hb3) (by omega)
 rw[hf] at SK
 obtain⟨fr2,b1,b2⟩:=aeq L run k fr1 hp1 (az [2] wr) hp0.length row n i x m neg (rcs e) cr (rcs (e*f)) (cM.len _) (cM.len _) (cM.okc _) h9' (by omega) hcm SK a2 (by rw[n1 4 (by omega),k4']) (by rw[n1 x (by omega),kx])
 have kx1:aV hp1 x=some ⟨.live,rcs e⟩:=by rw[n1 x (by omega),kx]
 generalize hg2:bP hp1 x ⟨.live,rcs (e*f)⟩=hp2 at *
 have l2:hp2.length=hp.length:=by rw[← hg2,bz,l1]
 have n2:∀ t,t≠x→aV hp2 t=aV hp1 t:=fun t ht=>by rw[← hg2];exact l8 kx1 ht
 have n2x:aV hp2 x=some ⟨.live,rcs (e*f)⟩:=by rw[← hg2];exact ob kx1
 have n22:aV hp2 2=some ⟨.live,(S.set i true).map bl⟩:=by rw[n2 2 (by omega),n12]
 obtain⟨fr3,c1,c2⟩:=aep L run k fr2 hp2 (az [x] (az (List.replicate m 2) (az [2] wr))) hp0.length row n i x neg (S.set i true) hi (by rw[List.length_set];exact hS) b2 n22 (by rw[n2 3 (by omega),n1 3 (by omega),k3'])
 rw[O7 S i (by omega) hSi] at c1
 generalize hg3:bP hp2 2 ⟨.live,S.map bl⟩=hp3 at *
 have l3:hp3.length=hp.length:=by rw[← hg3,bz,l2]
 have n3:∀ t,t≠2→aV hp3 t=aV hp2 t:=fun t ht=>by rw[← hg3];exact l8 n22 ht
 have n32:aV hp3 2=some ⟨.live,S.map bl⟩:=by rw[← hg3];exact ob n22
 have n3x:aV hp3 x=some ⟨.live,rcs (e*f)⟩:=by rw[n3 x (by omega),n2x]
 have w3:WB hp0.length (az [2] (az [x] (az (List.replicate m 2) (az [2] wr)))):=(((hw.add (WB.one (.inl rfl))).add WB.rep).add (WB.one (.inr (by omega)))).add (WB.one (.inl rfl))
 have old3:∀ t,t<hp0.length→aV hp3 t=aV hp0 t:=fun t ht=>by
  by_cases e2:t=2
  ·subst e2;rw[n32,p2]
  ·rw[n3 t e2,n2 t (by omega),n1 t e2,q2 t ht]
 have s3:aV hp3 (hp0.length+1)=some ⟨.live,sc⟩:=by rw[n3 _ (by omega),n2 _ (by omega),n1 _ (by omega),q4]
 have r3:aV hp3 hp0.length=some ⟨.live,rz⟩:=by rw[n3 _ (by omega),n2 _ (by omega),n1 _ (by omega),q3]
 have fin:∀ (fr4:List PV) (hp4:List Blk) (wr4:List Nat) (t:Rat),Rb (k1+k2) t→af (CC L) run k zj ⟨fr3,hp3,az [2] (az [x] (az (List.replicate m 2) (az [2] wr)))⟩=some (.normal,⟨fr4,hp4,wr4⟩)→YF fr4 hp0.length row n i x neg→hp4.length=hp.length→(∀ s,s≠x→aV hp4 s=aV hp3 s)→aV hp4 x=some ⟨.live,rcs t⟩→WB hp0.length wr4→(bif neg then -(e*f) else e*f)=t →
   ∃ fr' hp' wr' sc',af (CC L) run k exT ⟨fr,hp,wr⟩=some (.normal,⟨fr',hp',wr'⟩)∧XF fr' hp0.length row n i neg∧XH hp0 hp' sc'∧WB hp0.length wr'∧Rc sc' (some (vv u+(bif neg then -(e*f) else e*f))):=by
  intro fr4 hp4 wr4 t hbt d1 d2 l4 n4 n4x w4 ht
  have gadd:=UG ga run (p:=.agg sc) (q:=.agg (rcs t)) (u:=u) (v:=some t) hc.p (.inl rfl) hb1 hbt (by omega)
  have s4:aV hp4 (hp0.length+1)=some ⟨.live,sc⟩:=by rw[n4 _ (by omega),s3]
  obtain⟨fr5,e1,e2⟩:=aeo L run k fr4 hp4 wr4 hp0.length row n i x neg sc (rcs t) (rcs (vv u+t)) hc.len (cM.len _) (cM.len _) (cM.okc _) gadd d2 n4x s4
  refine⟨fr5,bP hp4 (hp0.length+1) ⟨.live,rcs (vv u+t)⟩,az [hp0.length+1] wr4,rcs (vv u+t),?_,e2,⟨?_,?_,?_,?_⟩,w4.add (WB.one (x:=hp0.length+1) (.inr (by omega))),?_⟩
  ·rw[acd,aw a1,aw b1,aw c1,aw d1];exact e1
  ·rw[bz];omega
  ·intro t' ht';rw[l8 (j:=t') s4 (by omega),n4 t' (by omega),old3 t' ht']
  ·rw[l8 (j:=hp0.length) s4 (by omega),n4 hp0.length (by omega),r3]
  ·rw[ob s4]
  ·rw[ht];exact .inl rfl
 cases neg with
 | false =>
  obtain⟨fr4,d1,d2⟩:=aca L run k fr3 hp3 (az [2] (az [x] (az (List.replicate m 2) (az [2] wr)))) hp0.length row n i x c2
  exact fin fr4 hp3 _ (e*f) (hb2.mul hb3) d1 d2 l3 (fun _ _=>rfl) n3x w3 rfl
 | true =>
  have gneg:=ac9 gn run (p:=.agg (rcs (e*f))) (u:=some (e*f)) (.inl rfl) (hb2.mul hb3) (by omega)
  obtain⟨fr4,d1,d2⟩:=acb L run k fr3 hp3 (az [2] (az [x] (az (List.replicate m 2) (az [2] wr)))) hp0.length row n i x (rcs (e*f)) (rcs (-(e*f))) (cM.len _) (cM.len _) (cM.okc _) gneg c2 n3x
  exact fin fr4 _ _ (-(e*f)) (hb2.mul hb3).neg d1 d2 (by rw[bz,l3]) (fun s hs=>l8 n3x hs) (ob n3x) (w3.add (WB.one (.inr (by omega)))) rfl
end Go.Proofs.YtjdmodeenbdfpaaGreat
