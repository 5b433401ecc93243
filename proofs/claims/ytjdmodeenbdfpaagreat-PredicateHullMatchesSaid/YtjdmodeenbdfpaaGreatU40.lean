/- Contracts of the law and of what it calls, and facts about determinants, part 40; each lemma states its conditions. -/
import Derived.Test.YtjdmodeenbdfpaaGreatU39
import Derived.Test.YtjdmodeenbdfpaaGreatU28
import Derived.Test.YtjdmodeenbdfpaaGreatU14
set_option linter.unusedSimpArgs false
set_option linter.unusedVariables false
noncomputable section
namespace Go.Proofs.YtjdmodeenbdfpaaGreat
open Go Go.Ab List Tryz
attribute [local simp] FzZ aC aF aG aH aY aa ab ae af ag ah aj an aq ar au aw bM ba bf bg iv uCl
variable(L:Lst)(run:av)(k:Nat)(fr:Ψ)(hp:Θ)(wr:Ω)
theorem ady:und TT 27=some .string:=by kernel_rfl
theorem qh:base.F.get 11=some f11:=by kernel_rfl
theorem Dr:base.shared 11=false:=by kernel_rfl
theorem uN:base.F.get 41=some f41:=by kernel_rfl
theorem MZ:base.shared 41=false:=by kernel_rfl
def Bl (n:Nat):Prop:=n<4611686018427387904
theorem Bl.i {n m:Nat}(h:Bl n)(hm:m<n):m<9223372036854775807:=Nat.lt_trans hm (Nat.lt_trans h (by decide))
def pr (s:ByteArray):Bool:=decide (60<(bys s).length)
def mS (p:List ByteArray):Bool:=p.any pr || decide (8<p.length)
def lE (c:List (List ByteArray)):Bool:=(decide (8<c.length) && decide (c.length≤64)) || (decide (70<c.length) || c.any mS)
def lpC:Code:=f41.body.getD .skip
def lpB:Code:=(az lpC).getD .skip
def LpF (fr:Ψ)(p:List ByteArray)(i:Nat):Prop:=fr.length=19∧nth fr 0=pE p∧nth fr 3=iv i
theorem ajd (m:Nat):((m:Int) > 60)=(60<m):=by apply propext;omega
theorem gt8 (m:Nat):((m:Int) > 8)=(8<m):=by apply propext;omega
theorem lt8 (m:Nat):((8:Int)<(m:Int))=(8<m):=by apply propext;omega
theorem ajc (m:Nat):((m:Int) > 70)=(70<m):=by apply propext;omega
theorem aiH (m:Nat):((70:Int)<(m:Int))=(70<m):=by apply propext;omega
theorem aiI (m:Nat):((m:Int)≤64)=(m≤64):=by apply propext;omega
theorem afQ(p:List ByteArray)(h:LpF fr p p.length) :
  ∃ fr',ae (CC L) run k lpB ⟨fr,[],[]⟩=some (.exit 0,⟨fr',[],[]⟩)∧LpF fr' p p.length:=by
 obtain⟨h0,h1,h3⟩:=h
 have hl:=eF p
 simp only[iv] at h3
 simp[LpF,lpB,lpC,f41,az,h0,h1,h3,hl,uRs]
theorem U0(p:List ByteArray)(i:Nat)(hi:i<p.length)(h9:Bl p.length)(h:LpF fr p i) :
  ∃ fr',ae (CC L) run k lpB ⟨fr,[],[]⟩=some (bif pr p[i] then .ret else .normal,⟨fr',[],[]⟩)∧(pr p[i]=true→nth fr' 2 = .sc (.bool true))∧(pr p[i]=false→LpF fr' p (i+1)):=by
 obtain⟨h0,h1,h3⟩:=h
 have hl:=eF p
 obtain⟨r,x1,x2⟩:=uv uRs p i hi
 have hw:=bE i (h9.i hi)
 generalize p[i]=s at *
 have hb:pr s=decide (60<(bO s).length):=by unfold pr;rw[jO]
 rw[hb]
 simp only[iv] at h3
 by_cases hs:60<(bO s).length
 ·simp[LpF,lpB,lpC,f41,az,partOf,h0,h1,h3,hl,uRs,ady,hi,x1,x2,hs,ajd,aV,iJ,gN]
 ·simp[LpF,lpB,lpC,f41,az,partOf,h0,h1,h3,hl,uRs,ady,hi,x1,x2,hs,hw,ajd,aV,iJ,gN]
theorem Lh (L:Lst)(run:av)(k:Nat)(p:List ByteArray)(h9:Bl p.length):∀ (n i:Nat) (fr:Ψ),i+n=p.length→LpF fr p i →
  (∃ fr',(p.drop i).any pr=false∧cg (ae (CC L) run k lpB) (n+1) ⟨fr,[],[]⟩=some (.exit 0,⟨fr',[],[]⟩)∧LpF fr' p p.length)∨∃ fr',(p.drop i).any pr=true∧cg (ae (CC L) run k lpB) (n+1) ⟨fr,[],[]⟩=some (.ret,⟨fr',[],[]⟩)∧nth fr' 2 = .sc (.bool true)
 | 0,i,fr,hin,h=>by
  have e:i=p.length:=by omega
  subst e
  obtain⟨fr',q1,q2⟩:=afQ L run k fr p h
  rw[drop_length]
  exact .inl ⟨fr',rfl,br q1,q2⟩
 | n+1,i,fr,hin,h=>by
  have hi:i<p.length:=by omega
  obtain⟨fr1,q1,q2,q3⟩:=U0 L run k fr p i hi h9 h
  rw[drop_eq_getElem_cons hi,any_cons]
  cases hv:pr p[i] with
  | true =>
   rw[hv] at q1
   exact .inr ⟨fr1,rfl,dD q1,q2 hv⟩
  | false =>
   rw[hv] at q1
   rw[Bool.false_or,bU q1]
   exact Lh L run k p h9 n (i+1) fr1 (by omega) (q3 hv)
def abM:Code:=seq1 (seq1 (ai 1 lpC))
theorem UZ:ai 1 lpC = .seq (.seq abM (.block 0 (.loop lpB))) (ai 2 lpC):=rfl
theorem afP (L:Lst)(run:av)(k:Nat)(p:List ByteArray):∃ fr fr',bh (CC L) run k 1 lpC ⟨entry 19 [pE p],[],[]⟩=some ⟨fr,[],[]⟩∧ae (CC L) run k abM ⟨fr,[],[]⟩=some (.normal,⟨fr',[],[]⟩)∧LpF fr' p 0:=by
 obtain⟨e1,e2⟩:=cV 18 (pE p)
 generalize entry 19 [pE p]=fr0 at *
 obtain⟨fr,a1,a2,a3⟩:∃ fr,bh (CC L) run k 1 lpC ⟨fr0,[],[]⟩=some ⟨fr,[],[]⟩∧fr.length=19∧nth fr 0=pE p:=by
  simp[lpC,f41,bh,e1,e2]
 refine⟨fr,?_⟩
 rw[a1]
 simp[LpF,abM,seq1,ai,lpC,f41,a2,a3]
theorem abL(p:List ByteArray)(h:LpF fr p p.length):∃ st,ae (CC L) run k (ai 2 lpC) ⟨fr,[],[]⟩=some (.ret,st)∧aY TT st.fr st.hp f41.results.toList=some [.sc (.bool (decide (8<p.length)))]:=by
 obtain⟨h0,h1,h3⟩:=h
 have hl:=eF p
 simp[lpC,ai,f41,h0,h1,hl,uRs,gt8]
theorem afO(b:PV)(h:nth fr 2=b):aY TT fr hp f41.results.toList=some [b]:=by
 simp[f41,h]
def IP:Ψ→Option Ψ:=ctr (fun p=>[pE p]) (fun p=>Bl p.length) fun p=>[.sc (.bool (mS p))]
theorem IM:Ab.Spec base.P 41 IP:=Ab.Spec.bL (C:=CC []) (cP trivial) fun args rs h=>by
 obtain⟨p,h9,rfl,rfl⟩:=cX h
 obtain⟨fr,fr1,a1,a2,a3⟩:=afP [] (runK (CC []) (p.length+1)) (p.length+1) p
 have hl:=Lh [] (runK (CC []) (p.length+1)) (p.length+1) p h9 p.length 0 fr1 (by omega) a3
 rw[drop_zero] at hl
 show ∃ k rs1 hp1 wr rs2 ids,_∧_∧WkL rs2 [.sc (.bool (mS p))]
 unfold mS
 rcases hl with ⟨fr2,h0,b1,b2⟩| ⟨fr2,h0,b1,b2⟩
 ·obtain⟨st,c1,c2⟩:=abL [] (runK (CC []) (p.length+1)) (p.length+1) fr2 p b2
  have hL:ae (CC []) (runK (CC []) (p.length+1)) (p.length+1) (.seq abM (.block 0 (.loop lpB))) ⟨fr,[],[]⟩=some (.normal,⟨fr2,[],[]⟩):=by
   rw[ao a2];exact bD b1
  rw[← ao hL,← UZ,← aU 1 a1] at c1
  rw[h0,Bool.false_or]
  exact⟨_,_,_,_,_,_,aZ uN rfl c1 c2,rfl,Wk.refl rfl,trivial⟩
 ·have hL:ae (CC []) (runK (CC []) (p.length+1)) (p.length+1) lpC ⟨entry 19 [pE p],[],[]⟩=some (.ret,⟨fr2,[],[]⟩):=by
   rw[aU 1 a1,UZ]
   refine bK ?_
   rw[ao a2];exact cL b1
  rw[h0,Bool.true_or]
  exact⟨_,_,_,_,_,_,aZ uN rfl hL (afO _ _ _ b2),rfl,Wk.refl rfl,trivial⟩
theorem adr {L:Lst}(hL:bC L 41=fun a=>IP (aK a))(run:av)(p:List ByteArray)(h9:Bl p.length):aA L run 41 [pE p] (.sc (.bool (mS p))) :=
 gi MZ (e:=fun p=>[pE p]) (f:=fun p=>[.sc (.bool (mS p))]) hL (fun x y _ _ h=>by rw[Ip (p:=x) (q:=y) (by simpa using h)]) run p h9 (fun _=>rfl) (by simp only[aK,yq])
def lgC:Code:=f11.body.getD .skip
def lgB:Code:=(az lgC).getD .skip
def LgF (fr:Ψ)(c:List (List ByteArray))(i:Nat):Prop:=fr.length=28∧nth fr 0=cE c∧nth fr 3=iv i
theorem afW(c:List (List ByteArray))(h:LgF fr c c.length) :
  ∃ fr',ae (CC L) run k lgB ⟨fr,[],[]⟩=some (.exit 0,⟨fr',[],[]⟩)∧LgF fr' c c.length:=by
 obtain⟨h0,h1,h3⟩:=h
 have hl:=fm c
 simp only[iv] at h3
 simp[LgF,lgB,lgC,f11,az,h0,h1,h3,hl]
theorem Vu(c:List (List ByteArray))(i:Nat)(v:Bool)(hi:i<c.length)(h9:c.length<1000)(g:aA L run 41 [pE c[i]] (.sc (.bool v)))(h:LgF fr c i) :
  ∃ fr',ae (CC L) run k lgB ⟨fr,[],[]⟩=some (bif v then .ret else .normal,⟨fr',[],[]⟩)∧(v=true→nth fr' 2 = .sc (.bool true))∧(v=false→LgF fr' c (i+1)):=by
 obtain⟨h0,h1,h3⟩:=h
 have hl:=fm c
 obtain⟨r,x1,x2⟩:=kG uCl c i hi
 have hw:=bE i (by omega)
 unfold aA at g
 generalize c[i]=p at *
 simp only[iv] at h3
 cases v <;> simp[LgF,lgB,lgC,f11,az,aM,partOf,h0,h1,h3,hl,hi,x1,x2,g,hw,aV,aPt,sPt]
theorem Lj (L:Lst)(run:av)(k:Nat)(c:List (List ByteArray))(h9:c.length<1000)(g:∀ p ∈ c,aA L run 41 [pE p] (.sc (.bool (mS p)))):∀ (n i:Nat) (fr:Ψ),i+n=c.length→LgF fr c i →
  (∃ fr',(c.drop i).any mS=false∧cg (ae (CC L) run k lgB) (n+1) ⟨fr,[],[]⟩=some (.exit 0,⟨fr',[],[]⟩)∧LgF fr' c c.length)∨∃ fr',(c.drop i).any mS=true∧cg (ae (CC L) run k lgB) (n+1) ⟨fr,[],[]⟩=some (.ret,⟨fr',[],[]⟩)∧nth fr' 2 = .sc (.bool true)
 | 0,i,fr,hin,h=>by
  have e:i=c.length:=by omega
  subst e
  obtain⟨fr',q1,q2⟩:=afW L run k fr c h
  rw[drop_length]
  exact .inl ⟨fr',rfl,br q1,q2⟩
 | n+1,i,fr,hin,h=>by
  have hi:i<c.length:=by omega
  obtain⟨fr1,q1,q2,q3⟩:=Vu L run k fr c i _ hi h9 (g _ (getElem_mem hi)) h
  rw[drop_eq_getElem_cons hi,any_cons]
  cases hv:mS c[i] with
  | true =>
   rw[hv] at q1 q2
   exact .inr ⟨fr1,rfl,dD q1,q2 rfl⟩
  | false =>
   rw[hv] at q1 q3
   rw[Bool.false_or,bU q1]
   exact Lj L run k c h9 g n (i+1) fr1 (by omega) (q3 rfl)
def abZ:Code:=seq1 (seq1 (ai 2 lgC))
theorem Vt:ai 2 lgC = .seq (.seq abZ (.block 0 (.loop lgB))) (ai 3 lgC):=rfl
theorem abY(c:List (List ByteArray))(h:8<c.length∧c.length≤64∨70<c.length):∃ st,ae (CC L) run k lgC ⟨entry 28 [cE c],[],[]⟩=some (.ret,st)∧aY TT st.fr st.hp f11.results.toList=some [.sc (.bool true)]:=by
 obtain⟨e1,e2⟩:=cV 27 (cE c)
 generalize entry 28 [cE c]=fr0 at *
 have hl:=fm c
 generalize c.length=m at *
 have a1:=gt8 m
 have a2:=lt8 m
 have a3:=ajc m
 have a4:=aiH m
 have a5:=aiI m
 by_cases b8:8<m
 ·by_cases b64:m≤64
  ·simp[lgC,f11,e1,e2,hl,a1,a5,b8,b64,undef]
  ·have b70:70<m:=by omega
   simp[lgC,f11,e1,e2,hl,a1,a3,a5,b8,b64,b70]
 ·omega
theorem afV (L:Lst)(run:av)(k:Nat)(c:List (List ByteArray))(h : ¬ (8<c.length∧c.length≤64∨70<c.length)):∃ fr fr',bh (CC L) run k 2 lgC ⟨entry 28 [cE c],[],[]⟩=some ⟨fr,[],[]⟩∧ae (CC L) run k abZ ⟨fr,[],[]⟩=some (.normal,⟨fr',[],[]⟩)∧LgF fr' c 0:=by
 obtain⟨e1,e2⟩:=cV 27 (cE c)
 generalize entry 28 [cE c]=fr0 at *
 have hl:=fm c
 have a1:=gt8 c.length
 have a2:=lt8 c.length
 have a3:=ajc c.length
 have a4:=aiH c.length
 have a5:=aiI c.length
 have b70 : ¬ 70<c.length:=fun e=>h (.inr e)
 obtain⟨fr,z1,z2,z3⟩:∃ fr,bh (CC L) run k 2 lgC ⟨fr0,[],[]⟩=some ⟨fr,[],[]⟩∧fr.length=28∧nth fr 0=cE c:=by
  by_cases b8:8<c.length
  ·have b64 : ¬ c.length≤64:=fun e=>h (.inl ⟨b8,e⟩)
   simp[lgC,f11,bh,e1,e2,hl,a1,a3,a5,b8,b64,b70]
  ·simp[lgC,f11,bh,e1,e2,hl,a1,a3,b8,b70,undef]
 refine⟨fr,?_⟩
 rw[z1]
 simp[LgF,abZ,seq1,ai,lgC,f11,z2,z3]
theorem abX(c:List (List ByteArray))(h:LgF fr c c.length):∃ st,ae (CC L) run k (ai 3 lgC) ⟨fr,[],[]⟩=some (.ret,st)∧aY TT st.fr st.hp f11.results.toList=some [.sc (.bool false)]:=by
 obtain⟨h0,h1,h3⟩:=h
 simp[lgC,ai,f11,h0]
theorem afU(b:PV)(h:nth fr 2=b):aY TT fr hp f11.results.toList=some [b]:=by
 simp[f11,h]
def LV4:Lst:=[(41,IP)]
def BZ:Ψ→Option Ψ:=ctr (fun c=>[cE c]) (fun c=>∀ p ∈ c,Bl p.length) fun c=>[.sc (.bool (lE c))]
theorem OO:Ab.Spec base.P 11 BZ:=Ab.Spec.bL (C:=CC LV4) (cP ⟨IM,trivial⟩) fun args rs h=>by
 obtain⟨c,h9,rfl,rfl⟩:=cX h
 show ∃ k rs1 hp1 wr rs2 ids,_∧_∧WkL rs2 [.sc (.bool (lE c))]
 by_cases hm:8<c.length∧c.length≤64∨70<c.length
 ·have e:lE c=true:=by
   unfold lE
   rcases hm with ⟨h1,h2⟩| h1
   ·rw[decide_eq_true h1,decide_eq_true h2];rfl
   ·rw[decide_eq_true h1];simp
  rw[e]
  obtain⟨st,x1,x2⟩:=abY LV4 (runK (CC LV4) 1) 1 c hm
  exact⟨_,_,_,_,_,_,aZ qh rfl x1 x2,rfl,Wk.refl rfl,trivial⟩
 ·have e:lE c=c.any mS:=by
   unfold lE
   have h1:decide (70<c.length)=false:=decide_eq_false fun e=>hm (.inr e)
   have h2:(decide (8<c.length) && decide (c.length≤64))=false:=by
    by_cases h8:8<c.length
    ·rw[decide_eq_false fun e=>hm (.inl ⟨h8,e⟩),Bool.and_false]
    ·rw[decide_eq_false h8,Bool.false_and]
   rw[h1,h2,Bool.false_or,Bool.false_or]
  have hc9:c.length<1000:=by omega
  rw[e]
  obtain⟨fr,fr1,a1,a2,a3⟩:=afV LV4 (runK (CC LV4) (c.length+1)) (c.length+1) c hm
  have hl:=Lj LV4 (runK (CC LV4) (c.length+1)) (c.length+1) c hc9 (fun p hp=>adr rfl _ p (h9 p hp)) c.length 0 fr1 (by omega) a3
  rw[drop_zero] at hl
  rcases hl with ⟨fr2,h0,b1,b2⟩| ⟨fr2,h0,b1,b2⟩
  ·obtain⟨st,c1,c2⟩:=abX LV4 (runK (CC LV4) (c.length+1)) (c.length+1) fr2 c b2
   have hL:ae (CC LV4) (runK (CC LV4) (c.length+1)) (c.length+1) (.seq abZ (.block 0 (.loop lgB))) ⟨fr,[],[]⟩=some (.normal,⟨fr2,[],[]⟩):=by
    rw[ao a2];exact bD b1
   rw[← ao hL,← Vt,← aU 2 a1] at c1
   rw[h0]
   exact⟨_,_,_,_,_,_,aZ qh rfl c1 c2,rfl,Wk.refl rfl,trivial⟩
  ·have hL:ae (CC LV4) (runK (CC LV4) (c.length+1)) (c.length+1) lgC ⟨entry 28 [cE c],[],[]⟩=some (.ret,⟨fr2,[],[]⟩):=by
    rw[aU 2 a1,Vt]
    refine bK ?_
    rw[ao a2];exact cL b1
   rw[h0]
   exact⟨_,_,_,_,_,_,aZ qh rfl hL (afU _ _ _ b2),rfl,Wk.refl rfl,trivial⟩
theorem ahk {L:Lst}(hL:bC L 11=fun a=>BZ (aK a))(run:av)(c:List (List ByteArray))(h9:∀ p ∈ c,Bl p.length):aA L run 11 [cE c] (.sc (.bool (lE c))) :=
 gi Dr (e:=fun c=>[cE c]) (f:=fun c=>[.sc (.bool (lE c))]) hL (fun x y _ _ h=>by rw[jN h]) run c h9 (wb · c) (tq c)
theorem EO {c:List (List ByteArray)}(h:lE c=false):Cv c:=by
 unfold lE at h
 simp only[Bool.or_eq_false_iff,decide_eq_false_iff_not] at h
 obtain⟨h1,h2,h3⟩:=h
 refine⟨by omega,fun p hp => ?_⟩
 rw[any_eq_false] at h3
 have h4:=h3 p hp
 unfold mS at h4
 simp only[Bool.or_eq_true,not_or,any_eq_true,decide_eq_true_eq,not_exists,not_and] at h4
 refine⟨by omega,fun s hs => ?_⟩
 have:=h4.1 s hs
 unfold pr at this
 simp only[decide_eq_true_eq] at this
 omega
theorem RbL.at {k:Nat}{X:List Rat}(h:RbL k X)(hk:0<k)(i:Nat):Rb k (X.getD i 0):=by
 rw[getD_eq_getElem?_getD]
 cases e:X[i]? with
 | none=>exact (Rb.zero 0).mono (by omega)
 | some x=>exact h x (mem_of_getElem? e)
theorem AA (X:List Rat)(i:Nat)(hi:i<X.length):∃ r,bc TT 39 (qL X) (.sc (.int .i64 (i:Int)))=some (.iptr r)∧r.head?=some (.sc (.string (qb X[i]))):=by
 obtain⟨r,h1,h2⟩:=uv uPt (X.map qb) i (by simpa using hi)
 refine⟨r,h1,?_⟩
 rw[h2,getElem_map]
theorem qb0:qb 0=⟨#[48]⟩:=by decide +kernel
def LE0:Lst:=[(167,jo),(152,fx),(97,ofF),(101,js),(149,sZ),(96,uX),(139,tv),(168,GG),(105,EE),(150,xW),(104,pn),(95,FA),(87,ly),(55,tL),(56,qG),(106,nm),(129,lv),(49,wv),(108,rrF),(145,kJ),(94,xI),(43,np)]
theorem ou:dt base.P LE0:=⟨iV,jr,ml,jT,nL,oc,oo,vX,re,rA,oO,rJ,oJ,sG,oI,oH,jW,pF,vp,oa,ta,pG,trivial⟩
def aho (o:Option (Ψ × Θ × Ω)):Bool:=match o with
 | some ([.sc (.bool b)],_,_)=>b
 | _=>false
theorem rf {C:Cfg}(hC:uO C){k:Nat}{g:FuncId}{args:Ψ}(h:aho (Ab.runK C k g args [])=true):Ab.Spec C.P g (ig args):=by
 unfold aho at h
 split at h
 ·rename_i b hp w e
  subst h
  have h1:Ab.Spec C.P g fun a=>bif rE (eqP 8) a args then some [.sc (.bool true)] else .none :=
   Ab.Spec.afp hC (fun a ha=>rD (I5 8) ha) ⟨k,_,_,_,[.sc (.bool true)],[],e,rfl,Wk.refl rfl,trivial⟩
  exact h1.canon
 ·cases h
def mcl (l:List (List (List UInt8))):PV:=.imm l.length false (l.map fun p=>.imm p.length false (p.map fun s=>.sc (.string (mkStr s))))
def mil (l:List Int):PV:=.imm l.length false (l.map fun i=>.sc (.int .i64 i))
def mhA:Ψ:=[mcl [[[48],[48]],[[50],[48]],[[49],[48]],[[50],[50]],[[48],[50]],[[48],[48]]],mil [0,1,3,4]]
def msS:List (List (List UInt8)):=[[[48],[48]],[[50],[48]],[[48],[50]],[[50],[50]],[[49],[49]],[[53],[53]]]
def msA (q w:Int):Ψ:=[mcl msS,.sc (.int .i64 q),.sc (.int .i64 w),.sc (.int .i64 0),mil [0,1,2]]
theorem aiF:Ab.Spec base.P 39 (ig mhA):=rf (C:=CC LE0) (k:=100) (cP ou) (by kernel_rfl)
theorem afF:Ab.Spec base.P 35 (ig (msA 3 0)):=rf (C:=CC LE0) (k:=100) (cP ou) (by kernel_rfl)
theorem afE:Ab.Spec base.P 35 (ig (msA 4 1)):=rf (C:=CC LE0) (k:=100) (cP ou) (by kernel_rfl)
theorem afD:Ab.Spec base.P 35 (ig (msA 5 (-1))):=rf (C:=CC LE0) (k:=100) (cP ou) (by kernel_rfl)
def msF:Ψ→Option Ψ:=orF (ig (msA 3 0)) (orF (ig (msA 4 1)) (ig (msA 5 (-1))))
theorem afG:Ab.Spec base.P 35 msF:=Ab.Spec.or afF (Ab.Spec.or afE afD)
def mdA (c:List (List (List UInt8)))(w:List UInt8)(s:Int)(l:List Int):Ψ:=[mcl c,.sc (.string (mkStr w)),.sc (.int .i64 s),mil l]
def mdT:List (List (List UInt8)):=[[[48],[48]],[[49],[48]],[[48],[49]]]
def mdD:List (List (List UInt8)):=[[[48],[48]],[[49],[49]],[[50],[50]]]
def mrA:Ψ:=[mcl mdD,.sc (.int .i64 1),mil [0,1,2]]
theorem afL:Ab.Spec base.P 36 (ig (mdA mdT [49] 1 [0,1,2])):=rf (C:=CC LE0) (k:=100) (cP ou) (by kernel_rfl)
theorem afK:Ab.Spec base.P 36 (ig (mdA mdT [45,49] (-1) [0,2,1])):=rf (C:=CC LE0) (k:=100) (cP ou) (by kernel_rfl)
theorem afJ:Ab.Spec base.P 36 (ig (mdA mdD [48] 0 [0,1,2])):=rf (C:=CC LE0) (k:=100) (cP ou) (by kernel_rfl)
def mdF:Ψ→Option Ψ:=orF (ig (mdA mdT [49] 1 [0,1,2])) (orF (ig (mdA mdT [45,49] (-1) [0,2,1])) (ig (mdA mdD [48] 0 [0,1,2])))
theorem afM:Ab.Spec base.P 36 mdF:=Ab.Spec.or afL (Ab.Spec.or afK afJ)
theorem aiE:Ab.Spec base.P 37 (ig mrA):=rf (C:=CC LE0) (k:=100) (cP ou) (by kernel_rfl)
def LE1:Lst:=[(39,ig mhA),(35,msF),(36,mdF),(37,ig mrA),(167,jo),(152,fx),(97,ofF),(101,js),(149,sZ),(96,uX),(139,tv),(168,GG),(105,EE),(150,xW),(104,pn),(95,FA),(87,ly),(55,tL),(56,qG),(106,nm),(129,lv),(49,wv),(108,rrF),(145,kJ),(94,xI),(43,np)]
theorem aha:dt base.P LE1:=⟨aiF,afG,afM,aiE,iV,jr,ml,jT,nL,oc,oo,vX,re,rA,oO,rJ,oJ,sG,oI,oH,jW,pF,vp,oa,ta,pG,trivial⟩
theorem adl:Ab.Spec base.P 12 (ig []):=rf (C:=CC LE1) (k:=100) (cP aha) (by kernel_rfl)
theorem RP:base.shared 12=false:=by kernel_rfl
theorem adt {L:Lst}(hL:bC L 12=fun a=>ig [] (aK a))(run:av):aA L run 12 [] (.sc (.bool true)):=fun dr hp =>
 bq RP hL run dr hp _ [.sc (.bool true)] rfl rfl rfl
theorem xJ (P:List Rat):dc (qL P)=some P.length:=by simp[qL,pE,jM,dc]
theorem W8 {L:Lst}{g:Nat}{f:Ψ→Option Ψ}(hs:base.shared g=false)(ho:bC L g=fun a=>f (aK a))(run:av)(dr:Bool)(hp:Θ)(args args' a rs:Ψ)(ids:Ω)
  (h1:bu (snap hp bn) args=some (args',ids)) (h2:aK args'=a) (h3:f a=some rs) (h4:rs.all eg=true):bS (CC L) run dr hp g args=some (iL rs,hp,⟨ids,[],false,false⟩):=by
 have h5:(CC L).orc g args'=some rs:=by
  show bC L g args'=_
  rw[ho];show f (aK args')=_;rw[h2,h3]
 exact lQ hs h1 h5 h4
theorem adv:ef TT 27=some [.sc (.string ⟨#[]⟩)]:=by kernel_rfl
theorem zPt:ef TT 39=some [.sc (.slice none 0 0)]:=by kernel_rfl
theorem ajv:iG TT 27=some 16:=by kernel_rfl
theorem abW (s:ByteArray):fP TT 39 1 [(0,.sc (.string s))]=some (1,[.sc (.string s)]):=by
 simp[fP,uPt,gN,adv,rep,dJ,b9,PV.cells?]
theorem aeW(s:ByteArray):eY hp 1 (.imm 1 true [.sc (.string s)])=some (1,[.sc (.string s)],[]):=by simp[eY]
def kN (hp:Θ)(p:PV)(X:List Rat):Prop:=p=eR true X∨∃ id,p = .own id 4 0 X.length true∧aX hp id=some ⟨.live,X.flatMap rcs⟩
theorem TV (X:List Rat)(i:Nat)(hi:i<X.length):bF (bz (X.flatMap rcs) (i*4)) 4=some (rcs X[i]):=by
 have h:=mG dh.toEl X i hi
 rw[h,dk (by rw[length_append,dh.len];omega)]
 have hl:=dh.len X[i]
 generalize rcs X[i]=c at *
 rw[← hl,take_left]
def F5 (hp:Θ)(mid:Nat)(p:PV)(X:List Rat):Prop:=p=eR true X∨∃ id,id≠mid∧p = .own id 4 0 X.length true∧aX hp id=some ⟨.live,X.flatMap rcs⟩
theorem F5.at {hp:Θ}{mid:Nat}{p:PV}{X:List Rat}(h:F5 hp mid p X):kN hp p X:=by
 rcases h with h | ⟨id,-,h1,h2⟩
 ·exact .inl h
 ·exact .inr ⟨id,h1,h2⟩
theorem gp {hp:Θ}{i:Nat}{b:Blk}(h:aX hp i=some b):i<hp.length:=by
 rw[cY] at h
 exact (List.getElem?_eq_some_iff.1 h).1
theorem F5.mono {hp hp':Θ}{mid:Nat}{p:PV}{X:List Rat}(h:F5 hp mid p X)(hh:∀ i,i<hp.length→i≠mid→aX hp' i=aX hp i):F5 hp' mid p X:=by
 rcases h with h | ⟨id,h0,h1,h2⟩
 ·exact .inl h
 ·exact .inr ⟨id,h0,h1,by rw[hh id (gp h2) h0,h2]⟩
theorem kN.len {hp:Θ}{p:PV}{X:List Rat}(h:kN hp p X):dc p=some X.length:=by
 rcases h with rfl | ⟨id,rfl,-⟩ <;> rfl
theorem kN.ok {hp:Θ}{p:PV}{X:List Rat}(h:kN hp p X):dZ p=true:=by
 rcases h with rfl | ⟨id,rfl,-⟩ <;> rfl
theorem kN.cells {hp:Θ}{p:PV}{X:List Rat}(h:kN hp p X):p.cells?=some [p]:=by
 rcases h with rfl | ⟨id,rfl,-⟩ <;> rfl
theorem kN.ix {hp:Θ}{p:PV}{X:List Rat}(h:kN hp p X)(i:Nat)(hi:i<X.length):∃ a r ids,bc TT 84 p (.sc (.int .i64 (i:Int)))=some a∧aV hp a=some (r,ids)∧bF r 4=some (rcs X[i]):=by
 rcases h with rfl | ⟨id,rfl,hid⟩
 ·obtain⟨r,x1,x2⟩:=mz true X i hi
  exact⟨_,r,[],x1,rfl,x2⟩
 ·refine⟨_,_,[id],IW id X.length i true hi,?_,TV X i hi⟩
  simp only[aV,hid]
  rw[if_neg (by simp)]
def CN (f:Rat)(V P:List Rat):List Rat:=List.zipWith (fun x q=>x - f*q) V P
def Hex (hp hp':Θ)(w:Nat):Prop:=hp.length≤hp'.length∧∀ i,i<hp.length→i≠w→aX hp' i=aX hp i
theorem Hex.trans {a b c:Θ}{w:Nat}(h:Hex a b w)(h':Hex b c w):Hex a c w :=
 ⟨Nat.le_trans h.1 h'.1,fun i hi hn=>by rw[h'.2 i (Nat.lt_of_lt_of_le hi h.1) hn,h.2 i hi hn]⟩
theorem Hex.refl (a:Θ)(w:Nat):Hex a a w:=⟨Nat.le_refl _,fun _ _ _=>rfl⟩
theorem Hex.set {a:Θ}{w:Nat}{b b0:Blk}(h:aX a w=some b0):Hex a (cF a w b) w:=⟨by rw[bQ];exact Nat.le_refl _,fun i _ hn=>wu h hn⟩
theorem Hex.alloc {a:Θ}(w:Nat)(z:Ψ)(b:Blk):Hex a (cF (bd a z) a.length b) w:=⟨by rw[al4];omega,fun i hi _=>al3 a z b i hi⟩
theorem kN.mono {hp hp':Θ}{w:Nat}{p:PV}{X:List Rat}(h:kN hp p X)(ho:Hex hp hp' w)(hw:p = .own w 4 0 X.length true→False):kN hp' p X:=by
 rcases h with h | ⟨id,h1,h2⟩
 ·exact .inl h
 ·exact .inr ⟨id,h1,by rw[ho.2 id (gp h2) (fun e=>hw (by rw[h1,e])),h2]⟩
theorem vQ {f:Rat}{V P:List Rat}(h:V.length=P.length):(CN f V P).length=P.length:=by
 unfold CN;rw[length_zipWith];omega
theorem QM {f:Rat}{V P:List Rat}{j:Nat}(h1:j<V.length)(h2:j<P.length)(h3:j<(CN f V P).length):(CN f V P)[j]=V[j] - f*P[j]:=by
 exact getElem_zipWith (f:=fun x q=>x - f*q) (h:=h3)
def Hgr (hp hp':Θ):Prop:=hp.length≤hp'.length∧∀ i,i<hp.length→aX hp' i=aX hp i
theorem Hgr.trans {a b c:Θ}(h:Hgr a b)(h':Hgr b c):Hgr a c :=
 ⟨Nat.le_trans h.1 h'.1,fun i hi=>by rw[h'.2 i (Nat.lt_of_lt_of_le hi h.1),h.2 i hi]⟩
theorem Hgr.refl (a:Θ):Hgr a a:=⟨Nat.le_refl _,fun _ _=>rfl⟩
theorem Hgr.new (a:Θ)(z:Ψ):Hgr a (bd a z):=⟨by simp[bd],fun i hi=>by rw[bP,if_neg (by omega)]⟩
theorem Hgr.abB (a:Θ)(z:Ψ)(b:Blk):Hgr a (cF (bd a z) a.length b):=⟨by rw[al4];omega,fun i hi=>al3 a z b i hi⟩
theorem Hgr.hex {a b c:Θ}{w:Nat}(h:Hgr a b)(h':Hex b c w)(hw:a.length≤w):Hgr a c :=
 ⟨Nat.le_trans h.1 h'.1,fun i hi=>by rw[h'.2 i (Nat.lt_of_lt_of_le hi h.1) (by omega),h.2 i hi]⟩
theorem kN.old {hp:Θ}{p:PV}{X:List Rat}(h:kN hp p X){w n:Nat}(hw:hp.length≤w):p ≠ .own w 4 0 n true:=by
 rcases h with rfl | ⟨id,rfl,h2⟩
 ·intro e;cases e
 ·intro e
  have:=gp h2
  simp only[PV.own.injEq] at e
  omega
def pT (s t:ByteArray):PV:=.imm 2 true [.sc (.string s),.sc (.string t)]
def d3 (A B P:List Rat):PV:=.imm 3 true [qL A,qL B,qL P]
def d4 (A B P:List Rat)(s t:ByteArray):PV:=.imm 4 true [qL A,qL B,qL P,pT s t]
def iP (l:Ω):PV:=.imm l.length true (l.map iv)
theorem Nb.sub {k:Nat}{x y:Int}(h:Nb k x)(h':Nb k y):Nb (k+1) (x - y):=by rw[Int.sub_eq_add_neg];exact h.add h'.neg
theorem Nd {x:Rat}(h:x<0):Bx x = -1:=by
 have : ¬ 0≤x.num:=fun h'=>by
  have:=Rat.num_nonneg.1 h'
  grind
 exact Int.sign_eq_neg_one_of_neg (by omega)
theorem Sd {x:Rat}(h:0<x):Bx x=1:=by
 have h1:=Rat.num_nonneg.2 (show 0≤x by grind)
 have h2:x.num≠0:=fun e=>by
  have:=Rat.num_eq_zero.1 e
  grind
 exact Int.sign_eq_one_of_pos (by omega)
theorem Hn (x:Rat):(x<0∧Bx x = -1)∨(x=0∧Bx x=0)∨(0<x∧Bx x=1):=by
 by_cases h:x<0
 ·exact .inl ⟨h,Nd h⟩
 ·by_cases h0:x=0
  ·exact .inr (.inl ⟨h0,by rw[h0];rfl⟩)
  ·have:0<x:=by grind
   exact .inr (.inr ⟨this,Sd this⟩)
theorem SI (x y:Rat):fI x y=Bx (x - y):=by
 unfold fI
 rcases Hn (x - y) with ⟨h1,h2⟩| ⟨h1,h2⟩| ⟨h1,h2⟩ <;> rw[h2]
 ·rw[if_pos (by grind)]
 ·rw[if_neg (by grind),if_pos (by grind)]
 ·rw[if_neg (by grind),if_neg (by grind)]
theorem Rb.inv {k:Nat}{y:Rat}(h:Rb k y)(h0:y≠0):Rb k y⁻¹:=by
 have hn:y.num≠0:=fun e=>h0 (Rat.num_eq_zero.1 e)
 have e:y⁻¹=Rat.inv y:=rfl
 rw[e]
 unfold Rat.inv
 split
 ·refine⟨?_,?_⟩
  ·show Nb k (-(y.den:Int))
   exact h.2.neg
  ·show Nb k ((y.num.natAbs:Nat):Int)
   have:=h.1
   unfold Nb at *
   simpa using this
 ·split
  ·refine⟨h.2,?_⟩
   show Nb k ((y.num.natAbs:Nat):Int)
   have:=h.1
   unfold Nb at *
   simpa using this
  ·exact h
theorem Rb.div {j k:Nat}{x y:Rat}(h:Rb j x)(h':Rb k y)(h0:y≠0):Rb (j+k) (x / y):=by
 rw[Rat.div_def];exact h.mul (h'.inv h0)
def Rws (hp:Θ)(mid N:Nat)(g:Nat→List Rat):Prop:=∃ ps,aX hp mid=some ⟨.live,ps⟩∧N≤ps.length∧∀ t,t<N→∃ v,ps[t]?=some v∧F5 hp mid v (g t)
theorem Rws.put {hp:Θ}{mid N t:Nat}{g:Nat→List Rat}{ps:Ψ}{w:PV}{W:List Rat}(h1:aX hp mid=some ⟨.live,ps⟩)(h2:N≤ps.length)(h3:∀ s,s<N→s≠t→∃ v,ps[s]?=some v∧F5 hp mid v (g s))(hw:F5 hp mid w W)(ht:t<N):Rws (cF hp mid ⟨.live,ps.set t w⟩) mid N (fun s=>if s=t then W else g s):=by
 have hk:∀ i,i<hp.length→i≠mid→aX (cF hp mid ⟨.live,ps.set t w⟩) i=aX hp i:=fun i _ hn=>wu h1 hn
 refine⟨ps.set t w,aeB h1,by rw[length_set];exact h2,fun s hs => ?_⟩
 by_cases e:s=t
 ·subst e
  refine⟨w,by rw[getElem?_set_self (by omega)],?_⟩
  dsimp only
  rw[if_pos rfl]
  exact hw.mono hk
 ·obtain⟨v,h4,h5⟩:=h3 s hs e
  refine⟨v,by rw[getElem?_set_ne (Ne.symm e),h4],?_⟩
  dsimp only
  rw[if_neg e]
  exact h5.mono hk
def DB (kk:Nat)(P V:List Rat):List Rat:=if V.getD kk 0=0 then V else CN (V.getD kk 0 / P.getD kk 0) V P
def Sw (kk r i:Nat)(P:List Rat)(g:Nat→List Rat)(t:Nat):List Rat:=if r≤t∧t<r+i then DB kk P (g t) else g t
theorem mB {X:List Rat}{i:Nat}(h:i<X.length):X.getD i 0=X[i]:=by rw[getD_eq_getElem?_getD,List.getElem?_eq_getElem h];rfl
theorem YK {P V:List Rat}{b c:Nat}{f:Rat}(hf:Rb c f)(hP:RbL b P)(hV:RbL b V):RbL (c+2*b+1) (CN f V P):=by
 intro x hx
 unfold CN at hx
 rw[mem_iff_getElem] at hx
 obtain⟨i,hi,rfl⟩:=hx
 rw[length_zipWith] at hi
 rw[getElem_zipWith]
 exact ((hV _ (getElem_mem (by omega))).sub (hf.mul (hP _ (getElem_mem (by omega))))).mono (by omega)
theorem Z4 {P V:List Rat}{kk b:Nat}(hk:kk<P.length)(hkV:kk<V.length)(h0:P.getD kk 0≠0)(hP:RbL b P)(hV:RbL b V):RbL (4*b+1) (DB kk P V):=by
 unfold DB
 split
 ·exact fun x hx=>(hV x hx).mono (by omega)
 ·have hf:Rb (b+b) (V.getD kk 0 / P.getD kk 0):=by
   refine Rb.div ?_ ?_ h0
   ·rw[mB hkV];exact hV _ (getElem_mem _)
   ·rw[mB hk];exact hP _ (getElem_mem _)
  exact fun x hx=>(YK hf hP hV x hx).mono (by omega)
theorem Sv {P V:List Rat}{kk n:Nat}(hP:P.length=n)(hV:V.length=n):(DB kk P V).length=n:=by
 unfold DB
 split
 ·exact hV
 ·rw[vQ (by omega),hP]
def cr1 (a b:List Rat):Rat:=a.getD 1 0*b.getD 2 0 - a.getD 2 0*b.getD 1 0
def cr2 (a b:List Rat):Rat:=a.getD 2 0*b.getD 0 0 - a.getD 0 0*b.getD 2 0
def cr3 (a b:List Rat):Rat:=a.getD 0 0*b.getD 1 0 - a.getD 1 0*b.getD 0 0
def tri (a b c:List Rat):Rat:=a.getD 0 0*cr1 b c+a.getD 1 0*cr2 b c+a.getD 2 0*cr3 b c
def nz (a:List Rat):Prop:=a.getD 0 0≠0∨a.getD 1 0≠0∨a.getD 2 0≠0
def OZ (a b:List Rat):Prop:=cr1 a b≠0∨cr2 a b≠0∨cr3 a b≠0
def Q1 (M:List (List Rat)):Prop:=∃ a,a ∈ M∧nz a
def Q2 (M:List (List Rat)):Prop:=∃ a,a ∈ M∧∃ b,b ∈ M∧OZ a b
def Q3 (M:List (List Rat)):Prop:=∃ a,a ∈ M∧∃ b,b ∈ M∧∃ c,c ∈ M∧tri a b c≠0
open Classical in
def rkM (M:List (List Rat)):Nat:=if Q3 M then 3 else if Q2 M then 2 else if Q1 M then 1 else 0
theorem UG {a:List Rat}(h : ¬ nz a):a.getD 0 0=0∧a.getD 1 0=0∧a.getD 2 0=0:=by
 unfold nz at h
 exact⟨Classical.byContradiction fun e=>h (.inl e),Classical.byContradiction fun e=>h (.inr (.inl e)),Classical.byContradiction fun e=>h (.inr (.inr e))⟩
theorem xB {a b:List Rat}(h : ¬ OZ a b):cr1 a b=0∧cr2 a b=0∧cr3 a b=0:=by
 unfold OZ at h
 exact⟨Classical.byContradiction fun e=>h (.inl e),Classical.byContradiction fun e=>h (.inr (.inl e)),Classical.byContradiction fun e=>h (.inr (.inr e))⟩
theorem Q3.q2 {M:List (List Rat)}(h:Q3 M):Q2 M:=by
 obtain⟨a,ha,b,hb,c,hc,h⟩:=h
 refine Classical.byContradiction fun hn=>h ?_
 have : ¬ OZ b c:=fun e=>hn ⟨b,hb,c,hc,e⟩
 obtain⟨e1,e2,e3⟩:=xB this
 unfold tri
 rw[e1,e2,e3]
 grind
theorem Q2.q1 {M:List (List Rat)}(h:Q2 M):Q1 M:=by
 obtain⟨a,ha,b,hb,h⟩:=h
 refine Classical.byContradiction fun hn => ?_
 obtain⟨e1,e2,e3⟩:=UG (a:=a) fun e=>hn ⟨a,ha,e⟩
 unfold OZ cr1 cr2 cr3 at h
 rw[e1,e2,e3] at h
 grind
theorem aeP {M:List (List Rat)}(h:Q3 M):rkM M=3:=by unfold rkM;rw[if_pos h]
theorem Sh {M:List (List Rat)}(h : ¬ Q3 M)(h2:Q2 M):rkM M=2:=by unfold rkM;rw[if_neg h,if_pos h2]
theorem Si {M:List (List Rat)}(h : ¬ Q2 M)(h2:Q1 M):rkM M=1:=by unfold rkM;rw[if_neg (fun e=>h e.q2),if_neg h,if_pos h2]
theorem Sj {M:List (List Rat)}(h : ¬ Q1 M):rkM M=0:=by unfold rkM;rw[if_neg (fun e=>h e.q2.q1),if_neg (fun e=>h e.q1),if_neg h]
def Red (k:Nat)(p s r:List Rat):Prop:=∀ i,r.getD i 0=s.getD i 0 - s.getD k 0 / p.getD k 0*p.getD i 0
theorem Kz {p s u r t:List Rat}{k:Nat}(h:Red k p s r)(h':Red k p u t):tri p s u=tri p r t:=by
 have a0:=h 0;have a1:=h 1;have a2:=h 2
 have b0:=h' 0;have b1:=h' 1;have b2:=h' 2
 generalize s.getD k 0 / p.getD k 0=x at *
 generalize u.getD k 0 / p.getD k 0=y at *
 unfold tri cr1 cr2 cr3
 rw[a0,a1,a2,b0,b1,b2]
 grind
theorem Red.zero {p s r:List Rat}{k:Nat}(h:Red k p s r)(hp:p.getD k 0≠0):r.getD k 0=0:=by
 rw[h k,Rat.div_mul_cancel hp]
 grind
theorem QV {k:Nat}(hk:k<3){p r t:List Rat}(hr:r.getD k 0=0)(ht:t.getD k 0=0):tri p r t=p.getD k 0*(if k=0 then cr1 r t else if k=1 then cr2 r t else cr3 r t):=by
 have:k=0∨k=1∨k=2:=by omega
 rcases this with rfl | rfl | rfl <;> simp[tri,cr1,cr2,cr3] <;> grind
theorem GB (p a b c:List Rat)(i:Nat)(hi:i<3):p.getD i 0*tri a b c=a.getD i 0*tri p b c - b.getD i 0*tri p a c+c.getD i 0*tri p a b:=by
 have:i=0∨i=1∨i=2:=by omega
 rcases this with rfl | rfl | rfl <;> simp only[tri,cr1,cr2,cr3] <;> grind
end Go.Proofs.YtjdmodeenbdfpaaGreat
end
