/- Contracts of fractions, clouds and predicates, part 42 of the proof; each lemma states its own conditions. -/
import Derived.Test.YtjdmodeenbdfpaaGreatQ41
set_option linter.unusedSimpArgs false
set_option linter.unusedVariables false
namespace Go.Proofs.YtjdmodeenbdfpaaGreat
open Go Go.Ab
theorem JZ (L:Lst)(run:aq)(k:Nat)(X:List (List Rat))(l:List Nat)(V:List Rat)(h9:l.length≤1000)(hl:∀ i ∈ l,∃ h:i<X.length,ar L run 59 [qL X[i]] (dh true X[i])∧ar L run 60 [dh true X[i],dh true V] (dh true (eu X[i] V))):∀ (n i:Nat) (fr:List PV) (hp:List Blk) (wr:List Nat) (out:List (List Rat)),i+n=l.length→out=(l.take i).map (fun j=>eu (X.getD j []) V)→hZ 1 eT 0 hp out (nth fr 6)→DfF fr X l V i →
  ∃ fr' hp' wr',ca (af (CC L) run k dfB) (n+1) ⟨fr,hp,wr⟩=some (.exit 0,⟨fr',hp',wr'⟩)∧fr'.length=35∧hZ 1 eT 0 hp' (l.map (fun j=>eu (X.getD j []) V)) (nth fr' 6)
 | 0,i,fr,hp,wr,out,hin,ho,hO,h=>by
  have e:i=l.length:=by omega
  subst e
  obtain⟨fr',q1,q2,q3⟩:=adx L run k fr hp wr X l V h
  refine⟨fr',hp,wr,bz q1,q2,?_⟩
  rw[List.take_length] at ho
  rw[q3,← ho]
  exact hO
 | n+1,i,fr,hp,wr,out,hin,ho,hO,h=>by
  have hi:i<l.length:=by omega
  obtain⟨hX,g1,g2⟩:=hl l[i] (List.getElem_mem hi)
  obtain⟨fr1,hp1,wr1,q1,q2,q3⟩:=Uf L run k fr hp wr X l V i out hi h9 (by rw[ho];simp;omega) hX g1 g2 hO h
  obtain⟨fr',hp',wr',s1,s2⟩:=JZ L run k X l V h9 hl n (i+1) fr1 hp1 wr1 _ (by omega) (by
   rw[ho,List.take_succ_eq_append_getElem hi,List.map_append,List.map_cons,List.map_nil,List.getD_eq_getElem?_getD,List.getElem?_eq_getElem hX];rfl) q3 q2
  exact⟨fr',hp',wr',by rw[bU q1];exact s1,s2⟩
noncomputable def ZF:Code:=seq1 (seq1 (ah 3 dfC))
theorem adv:ah 3 dfC = .seq (.seq ZF (.block 0 (.loop dfB))) (ah 4 dfC):=rfl
theorem aeB (hp:List Blk)(j:Nat)(l:List Nat):dC TT hp 24 (aN (j::l)) (some (.sc (.int .i64 1))) none none=some (aN l):=by
 have h1:aN (j::l) = .imm (l.length+1) false (.sc (.int .i64 (Int.ofNat j))::(l.map Int.ofNat).flatMap ei):=by
  simp[aN,aE,fJ,ei]
 have h2:aN l = .imm l.length false ((l.map Int.ofNat).flatMap ei):=by simp[aN,aE,fJ]
 have h3:((l.map Int.ofNat).flatMap ei).length=l.length:=by
  have:=adn.toEl.length (l.map Int.ofNat)
  simpa using this
 rw[h1,h2]
 have ht:bE ((l.map Int.ofNat).flatMap ei) l.length=some ((l.map Int.ofNat).flatMap ei):=by
  rw[dS (by omega),← h3,List.take_length]
 simp[dC,n8,iJ,sI,bnd,fN,aaa,gE,h3,br,ht]
theorem adw (L:Lst)(run:aq)(k:Nat)(X:List (List Rat))(j:Nat)(l:List Nat)(hj:j<X.length)(g:ar L run 59 [qL X[j]] (dh true X[j])) :
  ∃ fr fr',aX (CC L) run k 3 dfC ⟨entry 35 [qC X,aN (j::l)],[],[]⟩=some ⟨fr,[],[]⟩∧af (CC L) run k ZF ⟨fr,[],[]⟩=some (.normal,⟨fr',[],[]⟩)∧DfF fr' X l X[j] 0∧nth fr' 6 = .sc (.slice none 0 0):=by
 obtain⟨e1,e2,e3⟩:=cn 33 (qC X) (aN (j::l))
 generalize entry 35 [qC X,aN (j::l)]=fr0 at *
 have hX':j<(X.map fun P=>P.map qb).length:=by simpa using hj
 obtain⟨r',y1,y2⟩:=iu uCl (X.map fun P=>P.map qb) j hX'
 obtain⟨r,x1,x2⟩:=JB ((j::l).map Int.ofNat) 0 (by simp)
 have e4:pE (X.map fun P=>P.map qb)[j]=qL X[j]:=by rw[List.getElem_map];rfl
 rw[e4] at y2
 rw[show ((j::l).map Int.ofNat)[0]'(by simp)=(j:Int) from rfl] at x2
 rw[show aE ((j::l).map Int.ofNat)=aN (j::l) from rfl,show (((0:Nat):Int))=(0:Int) from rfl] at x1
 rw[show cE (X.map fun P=>P.map qb)=qC X from rfl] at y1
 have hsl:=fun hp=>aeB hp j l
 have hl:dQ (aN l)=some l.length:=by simp[aN,aE,fJ,dQ]
 unfold ar at g
 obtain⟨fr,a1,a2,a3,a4,a5,a6⟩:∃ fr,aX (CC L) run k 3 dfC ⟨fr0,[],[]⟩=some ⟨fr,[],[]⟩∧fr.length=35∧nth fr 0=qC X∧nth fr 1=aN (j::l)∧nth fr 5=dh true X[j]∧nth fr 6 = .sc (.slice none 0 0):=by
  simp[dfC,Tryz.f51,aX,e1,e2,e3,af,aH,an,ao,aG,ag,ai,aO,aj,ak,aC,az,FP.none,av,partOf,aa,ae,ab,bh,x1,x2,y1,y2,g,aI,sI,aPt,sPt,aU]
 refine⟨fr,?_⟩
 rw[a1]
 obtain⟨cs,hal⟩:∃ cs,aN (j::l) = .imm (l.length+1) false cs:=⟨_,by simp only[aN,aE,fJ,List.length_map,List.length_cons];rfl⟩
 rw[hal] at a4
 simp only[hal] at hsl
 simp[DfF,iv,ZF,seq1,ah,dfC,Tryz.f51,a2,a3,a4,a5,a6,af,aH,an,ao,aG,ag,ai,aj,ak,aC,az,FP.none,av,bK,aa,ae,ab,bh,and_assoc,hsl,hl,n8]
theorem ZE (L:Lst)(run:aq)(k:Nat)(fr:List PV)(hp:List Blk)(wr:List Nat)(p:PV)(h0:fr.length=35)(h3:nth fr 6=p):∃ st,af (CC L) run k (ah 4 dfC) ⟨fr,hp,wr⟩=some (.ret,st)∧st.hp=hp∧aV TT st.fr st.hp Tryz.f51.results.toList=some [p]:=by
 simp[dfC,ah,Tryz.f51,h0,h3,af,aH,an,ao,aG,ag,ai,aj,ak,aC,az,FP.none,aa,ab,aV]
theorem RO {α:Type}{s:Nat}{e:α→List PV}(he:El s e){b:Nat}{hp:List Blk}{l:List α}{p:PV}(h:hZ s e b hp l p):∃ rs ids,bq (snap hp bj) [p]=some (rs,ids)∧WkL rs [fJ e l]:=by
 obtain⟨hb,h⟩:=h
 rcases h with ⟨rfl,rfl⟩| ⟨id,m,x,hid,_,rfl,_,h⟩
 ·exact⟨[.sc (.slice none 0 0)],[],rfl,Wk.nil false,trivial⟩
 ·have ht:bE (br ((l++m).flatMap e) 0) (l.length*s)=some (l.flatMap e):=by
   rw[cM,List.drop_zero,qJ he]
  have h1:Ab.snap hp (11+1) (.own id s 0 l.length x)=some (.imm l.length x (l.flatMap e),[id]):=by
   rw[Ab.snap]
   simp only[h]
   rw[if_neg (by simp),ht]
   simp only[he.sns hp 10 l]
  refine⟨[.imm l.length x (l.flatMap e)],[id],?_,?_,trivial⟩
  ·show bq (snap hp 12) _=_
   simp only[bq,h1]
   rfl
  ·cases x
   ·exact Wk.refl (by simp[PV.cC])
   ·exact Wk.imm _ _ _
noncomputable def LR4:Lst:=[(59,A0),(60,Jf),(61,Jk)]
theorem ad2:dM base.P LR4:=⟨vJ,yY,y6,trivial⟩
abbrev XN:=List (List Rat) × List Nat
def xZ (m:Nat)(k:Nat)(X:List (List Rat)):Prop:=∀ P ∈ X,P.length=m∧RbL k P
theorem abN {X Y:List (List Rat)}(h:qC X=qC Y):X=Y:=by
 have h1:=xn h
 clear h
 induction X generalizing Y with
 | nil=>cases Y with
  | nil=>rfl
  | cons b Y=>simp at h1
 | cons a X ih=>cases Y with
  | nil=>simp at h1
  | cons b Y =>
   simp only[List.map_cons,List.cons.injEq] at h1
   rw[AZ (X:=a) (Y:=b) (by unfold qL;rw[h1.1]),ih h1.2]
theorem adS {p q:List Nat}(h:aN p=aN q):p=q:=by
 have h1:=H5 h
 exact List.map_inj_right (fun x y h=>Int.ofNat.inj h) |>.1 h1
noncomputable def G0:List PV→Option (List PV):=ctr (fun p:XN=>[qC p.1,aN p.2]) (fun p=>p.2≠[]∧p.2.length≤1000∧(∀ i ∈ p.2,i<p.1.length)∧∃ m,m≤1000∧xZ m 1000 p.1) fun p=>[mT (fq p.1 p.2)]
theorem GZ:Ab.Spec base.P 51 G0:=Ab.Spec.bN (C:=CC LR4) (cU ad2) fun args rs h=>by
 obtain⟨⟨X,l⟩,⟨hne,h9,hin,m,hm,hE⟩,rfl,rfl⟩:=db h
 dsimp only at hne h9 hin hE
 cases l with
 | nil=>exact absurd rfl hne
 | cons j l =>
  have hj:=hin j List.mem_cons_self
  have hEj:=hE _ (List.getElem_mem hj)
  obtain⟨fr,fr1,a1,a2,a3,a4⟩:=adw LR4 (runK (CC LR4) (l.length+1)) (l.length+1) X j l hj (ud rfl _ _ hEj.2 (by omega))
  obtain⟨fr2,hp2,wr2,b1,b2,b3⟩:=JZ LR4 (runK (CC LR4) (l.length+1)) (l.length+1) X l X[j] (by simp at h9;omega) (fun i hi=>by
   have h1:=hin i (List.mem_cons_of_mem _ hi)
   have hEi:=hE _ (List.getElem_mem h1)
   exact⟨h1,ud rfl _ _ hEi.2 (by omega),Vy rfl _ true true _ _ hEi.2 hEj.2 (by omega) (by omega) (by omega) (by omega)⟩) l.length 0 fr1 [] [] [] (by omega) rfl (by rw[a4];exact hZ.nil (Nat.le_refl _)) a3
  have hL:af (CC LR4) (runK (CC LR4) (l.length+1)) (l.length+1) (.seq ZF (.block 0 (.loop dfB))) ⟨fr,[],[]⟩=some (.normal,⟨fr2,hp2,wr2⟩):=by
   rw[aw a2];exact bF b1
  obtain⟨st,c1,c2,c3⟩:=ZE LR4 (runK (CC LR4) (l.length+1)) (l.length+1) fr2 hp2 wr2 _ b2 rfl
  have hx:af (CC LR4) (runK (CC LR4) (l.length+1)) (l.length+1) dfC ⟨entry 35 [qC X,aN (j::l)],[],[]⟩=some (.ret,st):=by
   rw[aM 3 a1,adv,aw hL,c1]
  obtain⟨rs,ids,d1,d2⟩:=RO afu b3
  refine⟨_,_,_,_,rs,ids,aQ Ip rfl hx c3,by rw[c2];exact d1,?_⟩
  have e:(fq X (j::l))=l.map (fun i=>eu (X.getD i []) X[j]):=by
   unfold fq
   simp only[List.tail_cons,List.headD_cons,List.getD_eq_getElem?_getD,List.getElem?_eq_getElem hj,Option.getD_some]
  show WkL rs [mT (fq X (j::l))]
  rw[e]
  exact d2
theorem aaf {L:Lst}(hL:bu L 51=fun a=>G0 (aJ a))(run:aq)(X:List (List Rat))(l:List Nat)(hne:l≠[])(h9:l.length≤1000)(hin:∀ i ∈ l,i<X.length){m k:Nat}(hm:m≤1000)(hk:k≤1000)(hE:xZ m k X):ar L run 51 [qC X,aN l] (mT (fq X l)) :=
 iw O9 (e:=fun p:XN=>[qC p.1,aN p.2]) (f:=fun p=>[mT (fq p.1 p.2)]) hL (fun x y _ _ h=>by
  simp only[List.cons.injEq,and_true] at h
  rw[Prod.ext (abN h.1) (adS h.2)]) run (X,l) ⟨hne,h9,hin,m,hm,fun P hP=>⟨(hE P hP).1,fun x hx=>((hE P hP).2 x hx).mono hk⟩⟩ (fun _=>rfl) (by simp only[aJ,qC,aN,qk,xi])
def exS (f:Nat→Rat)(r:List Rat)(S:List Bool):Nat→Option Rat × Bool
 | 0=>(none,false)
 | i+1=>if S.getD i false=true then exS f r S i else if r.getD i 0=0 then ((exS f r S i).1, !(exS f r S i).2) else
   (some (vv (exS f r S i).1+(bif (exS f r S i).2 then -(r.getD i 0*f i) else r.getD i 0*f i)), !(exS f r S i).2)
def exU (n:Nat):List (List Rat)→List Bool→Option Rat
 | [],_=>some 1
 | r::rs,S=>(exS (fun k=>vv (exU n rs (S.set k true))) r S n).1
def exB (n k:Nat):Nat→Nat
 | 0=>1
 | d+1=>n*(k+exB n k d+1)+1
theorem Hw {f:Nat→Rat}{r:List Rat}{S:List Bool}{k b:Nat}(hf:∀ i,Rb b (f i))(hr:RbL k r)(hk:0<k):∀ i,Rb (i*(k+b+1)+1) (vv (exS f r S i).1)
 | 0=>Rb.zero _
 | i+1=>by
  have ih:=Hw hf hr hk i (S:=S)
  have e:(i+1)*(k+b+1)=i*(k+b+1)+(k+b+1):=Nat.succ_mul i _
  have hx:Rb k (r.getD i 0):=by
   rw[List.getD_eq_getElem?_getD]
   cases h:r[i]? with
   | none=>exact (Rb.zero 0).mono (by omega)
   | some x=>exact hr x (List.mem_of_getElem? h)
  unfold exS
  by_cases h1:S.getD i false=true
  ·rw[if_pos h1];exact ih.mono (by rw[e];omega)
  ·rw[if_neg h1]
   by_cases h2:r.getD i 0=0
   ·rw[if_pos h2];exact ih.mono (by rw[e];omega)
   ·rw[if_neg h2]
    have hm:=hx.mul (hf i)
    have ht:Rb (k+b) (bif (exS f r S i).2 then -(r.getD i 0*f i) else r.getD i 0*f i):=by
     cases (exS f r S i).2
     ·exact hm
     ·exact hm.neg
    exact (ih.add ht).mono (by rw[e];omega)
theorem Bc {n k:Nat}(hk:0<k):∀ (rows:List (List Rat)) (S:List Bool),(∀ r ∈ rows,RbL k r)→Rb (exB n k rows.length) (vv (exU n rows S))
 | [],S,_=>Rb.one 0
 | r::rs,S,h=>Hw (fun i=>Bc hk rs _ fun r' hr'=>h r' (List.mem_cons_of_mem _ hr')) (h r List.mem_cons_self) hk n
theorem eo (l:List Nat):az [] l=l:=rfl
theorem iY:∀ {l w:List Nat} {i:Nat},i ∈ az l w→i ∈ l∨i ∈ w
 | [],w,i,h=>.inr h
 | a::l,w,i,h=>by
  unfold az at h
  cases hc:w.contains a with
  | true =>
   rw[hc,cond_true] at h
   rcases iY h with h | h
   ·exact .inl (List.mem_cons_of_mem _ h)
   ·exact .inr h
  | false =>
   rw[hc,cond_false] at h
   rcases iY h with h | h
   ·exact .inl (List.mem_cons_of_mem _ h)
   ·rcases List.mem_cons.1 h with h | h
    ·exact .inl (h ▸ List.mem_cons_self)
    ·exact .inr h
theorem kU:∀ {n:Nat} {l:List Nat} {i:Nat},i ∈ ju n l→i ∈ l∧i<n
 | n,a::l,i,h=>by
  unfold ju at h
  cases hc:a.blt n with
  | true =>
   rw[hc,cond_true] at h
   rcases List.mem_cons.1 h with h | h
   ·subst h;rw[Nat.blt_eq] at hc;exact⟨List.mem_cons_self,hc⟩
   ·exact⟨List.mem_cons_of_mem _ (kU h).1,(kU h).2⟩
  | false =>
   rw[hc,cond_false] at h
   exact⟨List.mem_cons_of_mem _ (kU h).1,(kU h).2⟩
theorem ui {hp:List Blk}{n:Nat} : ∀ {l:List Nat},(∀ i ∈ l,∀ b,aZ hp i=some b→dY n b.cs=true)→fO hp n l=true
 | [],_=>rfl
 | a::l,h=>by
  unfold fO
  rw[ui fun i hi=>h i (List.mem_cons_of_mem _ hi),Bool.and_true]
  cases e:aZ hp a with
  | none=>rfl
  | some b=>exact h a List.mem_cons_self b e
theorem OL {hp hp':List Blk}(hl:hp.length≤hp'.length)(h:∀ i,i<hp.length→aZ hp' i=aZ hp i):pf hp.length hp'=hp:=by
 rw[mh]
 refine List.ext_getElem? fun i => ?_
 by_cases hi:i<hp.length
 ·rw[List.getElem?_take_of_lt hi,← ct,← ct,h i hi]
 ·rw[List.getElem?_eq_none (by simp;omega),List.getElem?_eq_none (by omega)]
theorem Cl {L:Lst}{run:aq}{g:Nat}{args:List PV}{r:PV}{hp hp':List Blk}{w:List Nat}(hs:base.shared g=true)(hr:run g args hp=some ([r],hp',w))(hi:r.cC=true)(hl:hp.length≤hp'.length)(ho:∀ i,i<hp.length→aZ hp' i=aZ hp i)(hw:∀ i ∈ ju hp.length w,∀ b,aZ hp' i=some b→dY hp.length b.cs=true)(dr:Bool):cb (CC L) run dr hp g args=some (r,hp,⟨[],ju hp.length w,true,true⟩):=by
 have hs':(CC L).shared g=true:=hs
 unfold cb
 rw[if_pos hs',hr]
 simp only[bM,hi,ui hw,Bool.and_self,cond_true,gN,OL hl ho]
theorem J9 {l:List Nat}{a:Nat}(h:∀ i ∈ l,i=a):l=List.replicate l.length a:=List.eq_replicate_iff.2 ⟨rfl,h⟩
def eV (V:List Rat):List PV:=[vR V]
theorem afv:Ec 1 eV:=cO.list
def mC (M:List (List Rat)):PV:=fJ eV M
theorem Hm (M:List (List Rat)):dQ (mC M)=some M.length:=rfl
theorem ae2 (M:List (List Rat))(i:Nat)(hi:i<M.length):∃ r,bg TT 80 (mC M) (.sc (.int .i64 (i:Int)))=some (.iptr r)∧r.head?=some (vR M[i]):=by
 have h:=pY afv.toEl M i hi
 refine⟨br (M.flatMap eV) (i*1),?_,by rw[h];rfl⟩
 unfold mC fJ
 simp only[bg,ur,bk,PA,hi,if_true]
theorem Kq:fW TT 80=some false:=by kernel_rfl
theorem I7:cR TT 80=some 1:=by kernel_rfl
theorem Fg:und TT 140=some (.slice 4):=by kernel_rfl
theorem uT:cR TT 140=some 1:=by kernel_rfl
theorem Bt:fW TT 140=some false:=by kernel_rfl
def bl (b:Bool):PV:=.sc (.bool b)
theorem Ah:base.F.get 109=some Tryz.f109:=by kernel_rfl
theorem I3:base.shared 109=true:=by kernel_rfl
theorem sFn:cR TT 141=some 1:=by kernel_rfl
theorem aFn:fW TT 141=some false:=by kernel_rfl
noncomputable def exC:Code:=Tryz.f109.body.getD .skip
noncomputable def exL:Code:=(aF exC).getD .skip
noncomputable def adi:Code:=seq1 exL
noncomputable def adh:Code:=seq1 (cB exL)
noncomputable def n6:Code:=blk (seq1 (cB (cB exL)))
noncomputable def TM:Code:=cB (cB (cB exL))
noncomputable def Zu:Code:=seq1 n6
noncomputable def Zt:Code:=seq1 (cB n6)
noncomputable def mS:Code:=seq1 (cB (cB n6))
noncomputable def JV:Code:=cB (cB (cB n6))
noncomputable def Zs:Code:=seq1 mS
noncomputable def TL:Code:=seq1 (cB mS)
def Er:Code→Code
 | .cond _ a _=>a
 | c=>c
noncomputable def exT:Code:=Er (cB (cB mS))
noncomputable def TK:Code:=seq1 exT
noncomputable def zK:Code:=seq1 (cB exT)
noncomputable def TJ:Code:=seq1 (cB (cB exT))
noncomputable def zJ:Code:=seq1 (cB (cB (cB exT)))
noncomputable def TI:Code:=cB (cB (cB (cB exT)))
theorem adg:exL = .seq adi (.seq adh (.seq (.block 1 (.seq Zu (.seq Zt (.seq mS JV)))) TM)):=rfl
theorem JU:mS = .seq Zs (.seq TL (.cond (.tmp 33) exT .skip)):=rfl
theorem adf:exT = .seq TK (.seq zK (.seq TJ (.seq zJ TI))):=rfl
def XF (fr:List PV)(b row n i:Nat)(neg:Bool):Prop:=fr.length=56∧nth fr 0=iv row∧nth fr 1 = .ptr 0 0∧nth fr 2 = .ptr 3 0∧nth fr 3 = .ptr 4 0∧nth fr 5 = .ptr b 0∧nth fr 6 = .ptr (b+1) 0∧nth fr 7 = .sc (.bool neg)∧nth fr 16=iv n∧nth fr 17=iv i
def fnP:PV:=.clos 109 [.ptr 0 0,.ptr 3 0,.ptr 4 0]
def H0 (hp:List Blk)(M:List (List Rat))(n:Nat)(S:List Bool):Prop:=aZ hp 0=some ⟨.live,[mC M]⟩∧aZ hp 2=some ⟨.live,S.map bl⟩∧aZ hp 3=some ⟨.live,[.own 2 1 0 n true]⟩∧aZ hp 4=some ⟨.live,[fnP]⟩
theorem ada (L:Lst)(run:aq)(k:Nat)(fr:List PV)(hp:List Blk)(wr:List Nat)(b row n:Nat)(neg:Bool)(h:XF fr b row n n neg) :
  ∃ fr',af (CC L) run k exL ⟨fr,hp,wr⟩=some (.exit 0,⟨fr',hp,wr⟩)∧XF fr' b row n n neg:=by
 obtain⟨h0,h1,h2,h3,h4,h5,h6,h7,h8,h9⟩:=h
 simp only[iv] at h1 h8 h9
 simp[XF,iv,exL,exC,Tryz.f109,aF,af,aH,an,ao,aG,ag,ai,aj,ak,aC,az,FP.none,aY,au,bf,aa,ae,ab,h0,h1,h2,h3,h4,h5,h6,h7,h8,h9]
theorem agk (L:Lst)(run:aq)(k:Nat)(fr:List PV)(hp:List Blk)(wr:List Nat)(b row n i:Nat)(neg:Bool)(hi:i<n)(h:XF fr b row n i neg) :
  ∃ fr1 fr2,af (CC L) run k adi ⟨fr,hp,wr⟩=some (.normal,⟨fr1,hp,wr⟩)∧af (CC L) run k adh ⟨fr1,hp,wr⟩=some (.normal,⟨fr1,hp,wr⟩)∧af (CC L) run k Zu ⟨fr1,hp,wr⟩=some (.normal,⟨fr2,hp,wr⟩)∧XF fr2 b row n i neg∧nth fr2 8=iv i:=by
 obtain⟨h0,h1,h2,h3,h4,h5,h6,h7,h8,h9⟩:=h
 simp only[iv] at h1 h8 h9
 refine⟨js fr 18 (.sc (.bool true)),?_⟩
 simp[XF,iv,adi,adh,Zu,n6,blk,seq1,cB,exL,exC,Tryz.f109,aF,af,aH,an,ao,aG,ag,ai,aj,ak,aC,FP.none,aY,au,bf,aa,ae,ab,and_assoc,eo,h0,h1,h2,h3,h4,h5,h6,h7,h8,h9,hi]
theorem Tj (n i:Nat)(hi:i<n):bg TT 140 (.own 2 1 0 n true) (.sc (.int .i64 (i:Int)))=some (.ptr 2 i):=by
 simp only[bg,Fg,bk,sB,hi,and_self,if_true,Nat.zero_add,Nat.mul_one]
theorem JQ (L:Lst)(run:aq)(k:Nat)(fr:List PV)(hp:List Blk)(wr:List Nat)(b row n i:Nat)(neg:Bool)(M:List (List Rat))(S:List Bool)(hi:i<n)(hS:S.length=n)(v:Bool)(hv:S.getD i false=v)(h:XF fr b row n i neg)(h8':nth fr 8=iv i)(hh:H0 hp M n S) :
  ∃ fr',af (CC L) run k Zt ⟨fr,hp,wr⟩=some (bif v then .exit 1 else .normal,⟨fr',hp,wr⟩)∧XF fr' b row n i neg∧nth fr' 8=iv i:=by
 obtain⟨h0,h1,h2,h3,h4,h5,h6,h7,h8,h9⟩:=h
 obtain⟨k0,k2,k3,k4⟩:=hh
 have hx:=Tj n i hi
 have hd:=ku (e:=bl) S i (by omega)
 have hv':S[i]'(by omega)=v:=by rw[← hv,List.getD_eq_getElem?_getD,List.getElem?_eq_getElem (by omega)];rfl
 rw[hv'] at hd
 simp only[iv] at h1 h8 h9 h8'
 simp only[bl] at hd
 have k2':aZ hp 2=some ⟨.live,S.map fun b=>.sc (.bool b)⟩:=k2
 have hd':(br (S.map fun b=>(PV.sc (.bool b))) i).head?=some (.sc (.bool v)):=hd
 generalize (S.map fun b=>(PV.sc (.bool b)))=cs at *
 cases v <;> simp[XF,iv,Zt,n6,blk,seq1,cB,exL,exC,Tryz.f109,aF,af,aH,an,ao,aG,ag,ai,aj,ak,aC,FP.none,partOf,aa,ae,ab,bh,and_assoc,eo,h0,h1,h2,h3,h4,h5,h6,h7,h8,h9,h8',k2',k3,hx,hd',Bt,uT,aB,sB,aU,br]
theorem agl (L:Lst)(run:aq)(k:Nat)(fr:List PV)(hp:List Blk)(wr:List Nat)(b row n i:Nat)(neg:Bool)(M:List (List Rat))(S:List Bool)(hr:row<M.length)(hi:i<M[row].length)(v:Bool)(gs:ar L run 49 [.agg (rcs M[row][i])] (Ab.bC (eN M[row][i])))(hv:(eN M[row][i] != 0)=v)(h:XF fr b row n i neg)(h8':nth fr 8=iv i)(hh:H0 hp M n S) :
  ∃ fr1 fr',af (CC L) run k Zs ⟨fr,hp,wr⟩=some (.normal,⟨fr1,cf (aP hp rz) hp.length ⟨.live,rcs M[row][i]⟩,az [hp.length] (az [hp.length] wr)⟩)∧af (CC L) run k TL ⟨fr1,cf (aP hp rz) hp.length ⟨.live,rcs M[row][i]⟩,az [hp.length] (az [hp.length] wr)⟩=some (.normal,⟨fr',cf (aP hp rz) hp.length ⟨.live,rcs M[row][i]⟩,az [hp.length] (az [hp.length] wr)⟩)∧XF fr' b row n i neg∧nth fr' 8=iv i∧nth fr' 9 = .ptr hp.length 0∧nth fr' 33 = .sc (.bool v):=by
 obtain⟨h0,h1,h2,h3,h4,h5,h6,h7,h8,h9⟩:=h
 obtain⟨k0,k2,k3,k4⟩:=hh
 obtain⟨r,x1,x2⟩:=ae2 M row hr
 obtain⟨r',y1,y2⟩:=wy false M[row] i hi
 rw[show dh false M[row]=vR M[row] from rfl] at y1
 have hx:=al1 hp rz
 have hx1:=eE rz (rcs M[row][i]) (by rw[cO.len];rfl)
 have hx2:=al2 hp rz ⟨.live,rcs M[row][i]⟩
 have hx4:=eD (rcs M[row][i]) (cO.len _)
 have hokx:=cO.okc M[row][i]
 have hlx:=cO.len M[row][i]
 unfold ar at gs
 simp only[Ab.bC] at gs
 generalize eN M[row][i]=sg at *
 generalize rcs M[row][i]=cx at *
 generalize M[row]=R at *
 simp only[iv] at h1 h8 h9 h8'
 have zR':=zRz
 obtain⟨fr1,a1,a2,a3,a4,a5,a6,a7,a8,a9,a10,a11,a12,a13⟩:∃ fr1,af (CC L) run k Zs ⟨fr,hp,wr⟩=some (.normal,⟨fr1,cf (aP hp rz) hp.length ⟨.live,cx⟩,az [hp.length] (az [hp.length] wr)⟩)∧fr1.length=56∧nth fr1 0 = .sc (.int .i64 (row:Int))∧nth fr1 1 = .ptr 0 0∧nth fr1 2 = .ptr 3 0∧nth fr1 3 = .ptr 4 0∧nth fr1 5 = .ptr b 0∧nth fr1 6 = .ptr (b+1) 0∧nth fr1 7 = .sc (.bool neg)∧nth fr1 16 = .sc (.int .i64 (n:Int))∧nth fr1 17 = .sc (.int .i64 (i:Int))∧nth fr1 8 = .sc (.int .i64 (i:Int))∧nth fr1 9 = .ptr hp.length 0:=by
  simp[Zs,mS,n6,blk,seq1,cB,exL,exC,Tryz.f109,aF,af,aH,an,ao,aG,ag,ai,aj,ak,aC,FP.none,partOf,aa,ae,ab,bh,bm,eo,h0,h1,h2,h3,h4,h5,h6,h7,h8,h9,h8',k0,x1,x2,y1,y2,hx,hx1,hokx,hlx,Kq,I7,agq,PA,aR,sR,zR',aU,br]
 refine⟨fr1,?_⟩
 rw[a1]
 simp[XF,iv,TL,mS,n6,blk,seq1,cB,exL,exC,Tryz.f109,aF,af,aH,an,ao,aG,ag,ai,aO,aj,ak,aC,FP.none,aY,au,bf,av,partOf,aa,ae,ab,bh,and_assoc,eo,a2,a3,a4,a5,a6,a7,a8,a9,a10,a11,a12,a13,gs,hv,hx2,hx4,aR,sR,aU,br]
theorem aaJ (L:Lst)(run:aq)(k:Nat)(fr:List PV)(hp:List Blk)(wr:List Nat)(b row n i:Nat)(neg:Bool)(h:XF fr b row n i neg) :
  ∃ fr',af (CC L) run k JV ⟨fr,hp,wr⟩=some (.normal,⟨fr',hp,wr⟩)∧XF fr' b row n i (!neg):=by
 obtain⟨h0,h1,h2,h3,h4,h5,h6,h7,h8,h9⟩:=h
 simp only[iv] at h1 h8 h9
 simp[XF,iv,JV,n6,blk,seq1,cB,exL,exC,Tryz.f109,aF,af,aH,an,ao,aG,ag,ai,aj,ak,aC,FP.none,unP,aa,ae,ab,eo,h0,h1,h2,h3,h4,h5,h6,h7,h8,h9]
theorem afm (L:Lst)(run:aq)(k:Nat)(fr:List PV)(hp:List Blk)(wr:List Nat)(b row n i:Nat)(neg:Bool)(hi:i<1000)(h:XF fr b row n i neg) :
  ∃ fr',af (CC L) run k TM ⟨fr,hp,wr⟩=some (.normal,⟨fr',hp,wr⟩)∧XF fr' b row n (i+1) neg:=by
 obtain⟨h0,h1,h2,h3,h4,h5,h6,h7,h8,h9⟩:=h
 have hw:=bJ i (by omega)
 simp only[iv] at h1 h8 h9
 simp[XF,iv,TM,cB,exL,exC,Tryz.f109,aF,af,aH,an,ao,aG,ag,ai,aj,ak,aC,FP.none,aY,au,bf,av,aa,ae,ab,eo,h0,h1,h2,h3,h4,h5,h6,h7,h8,h9,hw]
theorem afk:(Region.before (jV zK))[6]?.getD 0=63:=by kernel_rfl
theorem afl:(Region.before (jV zK))[4]?.getD 0=14:=by kernel_rfl
def YF (fr:List PV)(b row n i x:Nat)(neg:Bool):Prop:=XF fr b row n i neg∧nth fr 8=iv i∧nth fr 9 = .ptr x 0
theorem Jm (S:List Bool)(i:Nat)(v:Bool)(hi:i<S.length):bX (S.map bl) i [.sc (.bool v)]=some ((S.set i v).map bl):=lF (e:=bl) S i v hi
theorem afq (L:Lst)(run:aq)(k:Nat)(fr:List PV)(hp:List Blk)(wr:List Nat)(b row n i x:Nat)(neg:Bool)(S:List Bool)(hi:i<n)(hS:S.length=n)(h:YF fr b row n i x neg)(k2:aZ hp 2=some ⟨.live,S.map bl⟩)(k3:aZ hp 3=some ⟨.live,[.own 2 1 0 n true]⟩) :
  ∃ fr',af (CC L) run k TK ⟨fr,hp,wr⟩=some (.normal,⟨fr',cf hp 2 ⟨.live,(S.set i true).map bl⟩,az [2] wr⟩)∧YF fr' b row n i x neg:=by
 obtain⟨⟨h0,h1,h2,h3,h4,h5,h6,h7,h8,h9⟩,h10,h11⟩:=h
 have hx:=Tj n i hi
 have ho:=Jm S i true (by omega)
 simp only[iv] at h1 h8 h9 h10
 generalize S.map bl=cs at *
 generalize (S.set i true).map bl=cs' at *
 simp[YF,XF,iv,TK,exT,Er,mS,n6,blk,seq1,cB,exL,exC,Tryz.f109,aF,af,aH,an,ao,aG,ag,ai,aj,ak,aC,FP.none,av,partOf,aa,ae,ab,bh,and_assoc,jQ,bD,bc,eo,h0,h1,h2,h3,h4,h5,h6,h7,h8,h9,h10,h11,k2,k3,hx,ho,Bt,uT,sB,aU,br]
theorem afo (L:Lst)(run:aq)(k:Nat)(fr:List PV)(hp:List Blk)(wr:List Nat)(b row n i x:Nat)(neg:Bool)(S:List Bool)(hi:i<n)(hS:S.length=n)(h:YF fr b row n i x neg)(k2:aZ hp 2=some ⟨.live,S.map bl⟩)(k3:aZ hp 3=some ⟨.live,[.own 2 1 0 n true]⟩) :
  ∃ fr',af (CC L) run k TJ ⟨fr,hp,wr⟩=some (.normal,⟨fr',cf hp 2 ⟨.live,(S.set i false).map bl⟩,az [2] wr⟩)∧YF fr' b row n i x neg:=by
 obtain⟨⟨h0,h1,h2,h3,h4,h5,h6,h7,h8,h9⟩,h10,h11⟩:=h
 have hx:=Tj n i hi
 have ho:=Jm S i false (by omega)
 simp only[iv] at h1 h8 h9 h10
 generalize S.map bl=cs at *
 generalize (S.set i false).map bl=cs' at *
 simp[YF,XF,iv,TJ,exT,Er,mS,n6,blk,seq1,cB,exL,exC,Tryz.f109,aF,af,aH,an,ao,aG,ag,ai,aj,ak,aC,FP.none,av,partOf,aa,ae,ab,bh,and_assoc,jQ,bD,bc,eo,h0,h1,h2,h3,h4,h5,h6,h7,h8,h9,h10,h11,k2,k3,hx,ho,Bt,uT,sB,aU,br]
set_option maxHeartbeats 2000000 in
theorem afp (L:Lst)(run:aq)(k:Nat)(fr:List PV)(hp:List Blk)(wr:List Nat)(b row n i x m:Nat)(neg:Bool)(cx cr cp:List PV)(hlx:cx.length=4)(hlp:cp.length=4)(hop:bc cp=true)(h9':row<1000)(hx2:2≠x)(hcall:cb (CC L) run true hp 109 [.sc (.int .i64 ((row:Int)+1)),.ptr 0 0,.ptr 3 0,.ptr 4 0]=some (.agg cr,hp,⟨[],List.replicate m 2,true,true⟩))(g:ar L run 56 [.agg cx,.agg cr] (.agg cp))(h:YF fr b row n i x neg)(k4:aZ hp 4=some ⟨.live,[fnP]⟩)(kx:aZ hp x=some ⟨.live,cx⟩) :
  ∃ fr',af (CC L) run k zK ⟨fr,hp,wr⟩=some (.normal,⟨fr',cf hp x ⟨.live,cp⟩,az [x] (az (List.replicate m 2) wr)⟩)∧YF fr' b row n i x neg:=by
 obtain⟨⟨h0,h1,h2,h3,h4,h5,h6,h7,h8,h9⟩,h10,h11⟩:=h
 have hw:=bJ row (by omega)
 have ht:=eD cx hlx
 have ho:=eE cx cp (by omega)
 have hb6:=afk
 have hb4:=afl
 simp[zK,exT,Er,mS,n6,blk,seq1,cB,exL,exC,Tryz.f109,aF,jV] at hb6 hb4
 have t0:Nat.testBit 63 0=true:=by decide
 have t1:Nat.testBit 63 1=true:=by decide
 have t4:Nat.testBit 63 4=true:=by decide
 have t5:Nat.testBit 14 1=true:=by decide
 have t6:Nat.testBit 14 0=false:=by decide
 have hx3 : ¬ (2=x):=hx2
 have hx4 : ¬ (x=2):=fun e=>hx2 e.symm
 unfold ar at g
 unfold fnP at k4
 simp only[iv] at h1 h8 h9 h10
 simp[-Nat.testBit_zero,hb6,hb4,t0,t1,t4,t5,t6,YF,XF,iv,zK,exT,Er,mS,n6,blk,seq1,cB,exL,exC,Tryz.f109,aF,af,aH,an,ao,aG,ag,ai,aO,aj,ak,aC,FP.none,aY,au,bf,av,partOf,aa,ae,ab,bh,and_assoc,bm,eo,h0,h1,h2,h3,h4,h5,h6,h7,h8,h9,h10,h11,k4,kx,ht,ho,hw,hcall,g,hop,hlp,hx3,aR,sR,sFn,aFn,aU,br,number,FP.free,cH,FP.apart]
theorem ade (L:Lst)(run:aq)(k:Nat)(fr:List PV)(hp:List Blk)(wr:List Nat)(b row n i x:Nat)(cx cp:List PV)(hlx:cx.length=4)(hlp:cp.length=4)(hop:bc cp=true)(g:ar L run 106 [.agg cx] (.agg cp))(h:YF fr b row n i x true)(kx:aZ hp x=some ⟨.live,cx⟩) :
  ∃ fr',af (CC L) run k zJ ⟨fr,hp,wr⟩=some (.normal,⟨fr',cf hp x ⟨.live,cp⟩,az [x] wr⟩)∧YF fr' b row n i x true:=by
 obtain⟨⟨h0,h1,h2,h3,h4,h5,h6,h7,h8,h9⟩,h10,h11⟩:=h
 have ht:=eD cx hlx
 have ho:=eE cx cp (by omega)
 unfold ar at g
 simp only[iv] at h1 h8 h9 h10
 simp[YF,XF,iv,zJ,exT,Er,mS,n6,blk,seq1,cB,exL,exC,Tryz.f109,aF,af,aH,an,ao,aG,ag,ai,aO,aj,ak,aC,FP.none,partOf,aa,ae,ab,bh,and_assoc,bm,eo,h0,h1,h2,h3,h4,h5,h6,h7,h8,h9,h10,h11,kx,ht,ho,g,hop,hlp,aR,sR,aU,br]
theorem adb (L:Lst)(run:aq)(k:Nat)(fr:List PV)(hp:List Blk)(wr:List Nat)(b row n i x:Nat)(h:YF fr b row n i x false) :
  ∃ fr',af (CC L) run k zJ ⟨fr,hp,wr⟩=some (.normal,⟨fr',hp,wr⟩)∧YF fr' b row n i x false:=by
 obtain⟨⟨h0,h1,h2,h3,h4,h5,h6,h7,h8,h9⟩,h10,h11⟩:=h
 simp only[iv] at h1 h8 h9 h10
 simp[YF,XF,iv,zJ,exT,Er,mS,n6,blk,seq1,cB,exL,exC,Tryz.f109,aF,af,aH,an,ao,aG,ag,ai,aj,ak,aC,FP.none,aa,ae,ab,and_assoc,eo,h0,h1,h2,h3,h4,h5,h6,h7,h8,h9,h10,h11]
theorem afn (L:Lst)(run:aq)(k:Nat)(fr:List PV)(hp:List Blk)(wr:List Nat)(b row n i x:Nat)(neg:Bool)(sc cx cp:List PV)(hls:sc.length=4)(hlx:cx.length=4)(hlp:cp.length=4)(hop:bc cp=true)(g:ar L run 87 [.agg sc,.agg cx] (.agg cp))(h:YF fr b row n i x neg)(kx:aZ hp x=some ⟨.live,cx⟩)(ks:aZ hp (b+1)=some ⟨.live,sc⟩) :
  ∃ fr',af (CC L) run k TI ⟨fr,hp,wr⟩=some (.normal,⟨fr',cf hp (b+1) ⟨.live,cp⟩,az [b+1] wr⟩)∧XF fr' b row n i neg:=by
 obtain⟨⟨h0,h1,h2,h3,h4,h5,h6,h7,h8,h9⟩,h10,h11⟩:=h
 have ht:=eD cx hlx
 have hts:=eD sc hls
 have ho:=eE sc cp (by omega)
 unfold ar at g
 simp only[iv] at h1 h8 h9 h10
 simp[XF,iv,TI,exT,Er,mS,n6,blk,seq1,cB,exL,exC,Tryz.f109,aF,af,aH,an,ao,aG,ag,ai,aO,aj,ak,aC,partOf,aa,ae,ab,bh,bm,eo,h0,h1,h2,h3,h4,h5,h6,h7,h8,h9,h11,kx,ks,ht,hts,ho,g,hop,hlp,aR,sR,aU,br]
def XH (hp0 hp:List Blk)(sc:List PV):Prop:=hp0.length+2≤hp.length∧(∀ i,i<hp0.length→aZ hp i=aZ hp0 i)∧aZ hp hp0.length=some ⟨.live,rz⟩∧aZ hp (hp0.length+1)=some ⟨.live,sc⟩
def WB (b:Nat)(w:List Nat):Prop:=∀ i ∈ w,i=2∨b≤i
theorem WB.add {b:Nat}{w l:List Nat}(h:WB b w)(h':WB b l):WB b (az l w):=fun i hi=>by
 rcases iY hi with hi | hi
 ·exact h' i hi
 ·exact h i hi
theorem WB.one {b x:Nat}(h:x=2∨b≤x):WB b [x]:=fun i hi=>by
 rw[List.mem_singleton] at hi;subst hi;exact h
theorem WB.rep {b m:Nat} : WB b (List.replicate m 2):=fun i hi=>.inl (List.mem_replicate.1 hi).2
theorem ox {hp:List Blk}{i j:Nat}{b b0:Blk}(h:aZ hp i=some b0)(hij:j≠i):aZ (cf hp i b) j=aZ hp j:=by rw[cJ h,if_neg hij]
theorem qR {hp:List Blk}{i:Nat}{b b0:Blk}(h:aZ hp i=some b0):aZ (cf hp i b) i=some b:=by rw[cJ h,if_pos rfl]
theorem Py (S:List Bool)(i:Nat)(hi:i<S.length)(h:S.getD i false=false):(S.set i true).set i false=S:=by
 rw[List.set_set]
 have:S[i]=false:=by rw[← h,List.getD_eq_getElem?_getD,List.getElem?_eq_getElem hi];rfl
 rw[← this,List.set_getElem_self]
theorem Zo (L:Lst)(run:aq)(k:Nat)(gm:bu L 56=fun a=>mq (aJ a))(ga:bu L 87=fun a=>iT (aJ a))(gn:bu L 106=fun a=>j0 (aJ a))(hp0 hp:List Blk)(fr:List PV)(wr:List Nat)(row n i x:Nat)(neg:Bool)(M:List (List Rat))(S:List Bool)(sc:List PV)(u:Option Rat)(e f:Rat)(cr:List PV)(uf:Option Rat){j k1 k2:Nat}
  (hi:i<n) (hS:S.length=n) (h9':row<1000) (hSi:S.getD i false=false) (h5:5≤hp0.length) (hH:H0 hp0 M n S) (hX:XH hp0 hp sc) (hx:hp0.length+2≤x) (hx':x<hp.length) (kx:aZ hp x=some ⟨.live,rcs e⟩) (hY:YF fr hp0.length row n i x neg) (hc:Rc sc u) (hcr:Rc cr uf) (hf:vv uf=f)
  (hb1:Rb j (vv u)) (hb2:Rb k1 e) (hb3:Rb k2 f) (h6:j+k1+k2≤1000000) (hw:WB hp0.length wr)
  (hcall:∀ hp1:List Blk,hp0.length≤hp1.length→(∀ i,i<hp0.length→i≠2→aZ hp1 i=aZ hp0 i)→aZ hp1 2=some ⟨.live,(S.set i true).map bl⟩→∃ m,cb (CC L) run true hp1 109 [.sc (.int .i64 ((row:Int)+1)),.ptr 0 0,.ptr 3 0,.ptr 4 0]=some (.agg cr,hp1,⟨[],List.replicate m 2,true,true⟩)) :
  ∃ fr' hp' wr' sc',af (CC L) run k exT ⟨fr,hp,wr⟩=some (.normal,⟨fr',hp',wr'⟩)∧XF fr' hp0.length row n i neg∧XH hp0 hp' sc'∧WB hp0.length wr'∧Rc sc' (some (vv u+(bif neg then -(e*f) else e*f))):=by
 obtain⟨q1,q2,q3,q4⟩:=hX
 obtain⟨p0,p2,p3,p4⟩:=hH
 have k2':aZ hp 2=some ⟨.live,S.map bl⟩:=by rw[q2 2 (by omega),p2]
 have k3':aZ hp 3=some ⟨.live,[.own 2 1 0 n true]⟩:=by rw[q2 3 (by omega),p3]
 have k4':aZ hp 4=some ⟨.live,[fnP]⟩:=by rw[q2 4 (by omega),p4]
 obtain⟨fr1,a1,a2⟩:=afq L run k fr hp wr hp0.length row n i x neg S hi hS hY k2' k3'
 generalize hg1:cf hp 2 ⟨.live,(S.set i true).map bl⟩=hp1 at *
 have l1:hp1.length=hp.length:=by rw[← hg1,bG]
 have n1:∀ t,t≠2→aZ hp1 t=aZ hp t:=fun t ht=>by rw[← hg1];exact ox k2' ht
 have n12:aZ hp1 2=some ⟨.live,(S.set i true).map bl⟩:=by rw[← hg1];exact qR k2'
 obtain⟨m,hcm⟩:=hcall hp1 (by omega) (fun t ht ht2=>by rw[n1 t ht2,q2 t ht]) n12
 have Tv:=Vr gm run (p:=.agg (rcs e)) (q:=.agg cr) (u:=some e) (v:=uf) (.inl rfl) hcr.p hb2 (by rw[hf];exact hb3) (by omega)
 rw[hf] at Tv
 obtain⟨fr2,b1,b2⟩:=afp L run k fr1 hp1 (az [2] wr) hp0.length row n i x m neg (rcs e) cr (rcs (e*f)) (cO.len _) (cO.len _) (cO.okc _) h9' (by omega) hcm Tv a2 (by rw[n1 4 (by omega),k4']) (by rw[n1 x (by omega),kx])
 have kx1:aZ hp1 x=some ⟨.live,rcs e⟩:=by rw[n1 x (by omega),kx]
 generalize hg2:cf hp1 x ⟨.live,rcs (e*f)⟩=hp2 at *
 have l2:hp2.length=hp.length:=by rw[← hg2,bG,l1]
 have n2:∀ t,t≠x→aZ hp2 t=aZ hp1 t:=fun t ht=>by rw[← hg2];exact ox kx1 ht
 have n2x:aZ hp2 x=some ⟨.live,rcs (e*f)⟩:=by rw[← hg2];exact qR kx1
 have n22:aZ hp2 2=some ⟨.live,(S.set i true).map bl⟩:=by rw[n2 2 (by omega),n12]
 obtain⟨fr3,c1,c2⟩:=afo L run k fr2 hp2 (az [x] (az (List.replicate m 2) (az [2] wr))) hp0.length row n i x neg (S.set i true) hi (by rw[List.length_set];exact hS) b2 n22 (by rw[n2 3 (by omega),n1 3 (by omega),k3'])
 rw[Py S i (by omega) hSi] at c1
 generalize hg3:cf hp2 2 ⟨.live,S.map bl⟩=hp3 at *
 have l3:hp3.length=hp.length:=by rw[← hg3,bG,l2]
 have n3:∀ t,t≠2→aZ hp3 t=aZ hp2 t:=fun t ht=>by rw[← hg3];exact ox n22 ht
 have n32:aZ hp3 2=some ⟨.live,S.map bl⟩:=by rw[← hg3];exact qR n22
 have n3x:aZ hp3 x=some ⟨.live,rcs (e*f)⟩:=by rw[n3 x (by omega),n2x]
 have w3:WB hp0.length (az [2] (az [x] (az (List.replicate m 2) (az [2] wr)))):=(((hw.add (WB.one (.inl rfl))).add WB.rep).add (WB.one (.inr (by omega)))).add (WB.one (.inl rfl))
 have old3:∀ t,t<hp0.length→aZ hp3 t=aZ hp0 t:=fun t ht=>by
  by_cases e2:t=2
  ·subst e2;rw[n32,p2]
  ·rw[n3 t e2,n2 t (by omega),n1 t e2,q2 t ht]
 have s3:aZ hp3 (hp0.length+1)=some ⟨.live,sc⟩:=by rw[n3 _ (by omega),n2 _ (by omega),n1 _ (by omega),q4]
 have r3:aZ hp3 hp0.length=some ⟨.live,rz⟩:=by rw[n3 _ (by omega),n2 _ (by omega),n1 _ (by omega),q3]
 have fin:∀ (fr4:List PV) (hp4:List Blk) (wr4:List Nat) (t:Rat),Rb (k1+k2) t→af (CC L) run k zJ ⟨fr3,hp3,az [2] (az [x] (az (List.replicate m 2) (az [2] wr)))⟩=some (.normal,⟨fr4,hp4,wr4⟩)→YF fr4 hp0.length row n i x neg→hp4.length=hp.length→(∀ s,s≠x→aZ hp4 s=aZ hp3 s)→aZ hp4 x=some ⟨.live,rcs t⟩→WB hp0.length wr4→(bif neg then -(e*f) else e*f)=t →
   ∃ fr' hp' wr' sc',af (CC L) run k exT ⟨fr,hp,wr⟩=some (.normal,⟨fr',hp',wr'⟩)∧XF fr' hp0.length row n i neg∧XH hp0 hp' sc'∧WB hp0.length wr'∧Rc sc' (some (vv u+(bif neg then -(e*f) else e*f))):=by
  intro fr4 hp4 wr4 t hbt d1 d2 l4 n4 n4x w4 ht
  have gadd:=Vt ga run (p:=.agg sc) (q:=.agg (rcs t)) (u:=u) (v:=some t) hc.p (.inl rfl) hb1 hbt (by omega)
  have s4:aZ hp4 (hp0.length+1)=some ⟨.live,sc⟩:=by rw[n4 _ (by omega),s3]
  obtain⟨fr5,e1,e2⟩:=afn L run k fr4 hp4 wr4 hp0.length row n i x neg sc (rcs t) (rcs (vv u+t)) hc.len (cO.len _) (cO.len _) (cO.okc _) gadd d2 n4x s4
  refine⟨fr5,cf hp4 (hp0.length+1) ⟨.live,rcs (vv u+t)⟩,az [hp0.length+1] wr4,rcs (vv u+t),?_,e2,⟨?_,?_,?_,?_⟩,w4.add (WB.one (x:=hp0.length+1) (.inr (by omega))),?_⟩
  ·rw[adf,aw a1,aw b1,aw c1,aw d1];exact e1
  ·rw[bG];omega
  ·intro t' ht';rw[ox (j:=t') s4 (by omega),n4 t' (by omega),old3 t' ht']
  ·rw[ox (j:=hp0.length) s4 (by omega),n4 hp0.length (by omega),r3]
  ·rw[qR s4]
  ·rw[ht];exact .inl rfl
 cases neg with
 | false =>
  obtain⟨fr4,d1,d2⟩:=adb L run k fr3 hp3 (az [2] (az [x] (az (List.replicate m 2) (az [2] wr)))) hp0.length row n i x c2
  exact fin fr4 hp3 _ (e*f) (hb2.mul hb3) d1 d2 l3 (fun _ _=>rfl) n3x w3 rfl
 | true =>
  have gneg:=ad8 gn run (p:=.agg (rcs (e*f))) (u:=some (e*f)) (.inl rfl) (hb2.mul hb3) (by omega)
  obtain⟨fr4,d1,d2⟩:=ade L run k fr3 hp3 (az [2] (az [x] (az (List.replicate m 2) (az [2] wr)))) hp0.length row n i x (rcs (e*f)) (rcs (-(e*f))) (cO.len _) (cO.len _) (cO.okc _) gneg c2 n3x
  exact fin fr4 _ _ (-(e*f)) (hb2.mul hb3).neg d1 d2 (by rw[bG,l3]) (fun s hs=>ox n3x hs) (qR n3x) (w3.add (WB.one (.inr (by omega)))) rfl
end Go.Proofs.YtjdmodeenbdfpaaGreat
