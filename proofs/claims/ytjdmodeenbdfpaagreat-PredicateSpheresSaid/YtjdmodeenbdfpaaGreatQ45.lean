/- Contracts of the law and of what it calls, and facts about determinants, part 45 of the proof; each lemma states its own conditions. -/
import Derived.Test.YtjdmodeenbdfpaaGreatQ44
import Derived.Test.YtjdmodeenbdfpaaGreatQ25
import Derived.Test.YtjdmodeenbdfpaaGreatQ12
import Derived.Test.YtjdmodeenbdfpaaGreatQ28
set_option linter.unusedSimpArgs false
set_option linter.unusedVariables false
namespace Go.Proofs.YtjdmodeenbdfpaaGreat
open Go Go.Ab
theorem aam:und TT 27=some .string:=by kernel_rfl
theorem oY:base.F.get 11=some Tryz.f11:=by kernel_rfl
theorem Pf:base.shared 11=false:=by kernel_rfl
theorem tv:base.F.get 41=some Tryz.f41:=by kernel_rfl
theorem Ld:base.shared 41=false:=by kernel_rfl
def Bl (n:Nat):Prop:=n<4611686018427387904
theorem Bl.i {n m:Nat}(h:Bl n)(hm:m<n):m<9223372036854775807:=Nat.lt_trans hm (Nat.lt_trans h (by decide))
def oe (s:ByteArray):Bool:=decide (60<(bys s).length)
def l9 (p:List ByteArray):Bool:=p.any oe || decide (8<p.length)
def n5 (c:List (List ByteArray)):Bool:=(decide (8<c.length) && decide (c.length≤64)) || (decide (70<c.length) || c.any l9)
noncomputable def lpC:Code:=Tryz.f41.body.getD .skip
noncomputable def lpB:Code:=(aF lpC).getD .skip
def LpF (fr:List PV)(p:List ByteArray)(i:Nat):Prop:=fr.length=19∧nth fr 0=pE p∧nth fr 3=iv i
theorem ae6 (m:Nat):((m:Int) > 60)=(60<m):=by apply propext;omega
theorem gt8 (m:Nat):((m:Int) > 8)=(8<m):=by apply propext;omega
theorem lt8 (m:Nat):((8:Int)<(m:Int))=(8<m):=by apply propext;omega
theorem ae5 (m:Nat):((m:Int) > 70)=(70<m):=by apply propext;omega
theorem aeX (m:Nat):((70:Int)<(m:Int))=(70<m):=by apply propext;omega
theorem ae1 (m:Nat):((m:Int)≤64)=(m≤64):=by apply propext;omega
theorem acD (L:Lst)(run:aq)(k:Nat)(fr:List PV)(p:List ByteArray)(h:LpF fr p p.length) :
  ∃ fr',af (CC L) run k lpB ⟨fr,[],[]⟩=some (.exit 0,⟨fr',[],[]⟩)∧LpF fr' p p.length:=by
 obtain⟨h0,h1,h3⟩:=h
 have hl:=fM p
 simp only[iv] at h3
 simp[LpF,iv,lpB,lpC,Tryz.f41,aF,af,aH,an,ao,aG,ag,ai,aj,ak,aC,az,FP.none,aY,au,bf,bK,aa,ae,ab,bh,h0,h1,h3,hl,uRs]
theorem SE (L:Lst)(run:aq)(k:Nat)(fr:List PV)(p:List ByteArray)(i:Nat)(hi:i<p.length)(h9:Bl p.length)(h:LpF fr p i) :
  ∃ fr',af (CC L) run k lpB ⟨fr,[],[]⟩=some (bif oe p[i] then .ret else .normal,⟨fr',[],[]⟩)∧(oe p[i]=true→nth fr' 2 = .sc (.bool true))∧(oe p[i]=false→LpF fr' p (i+1)):=by
 obtain⟨h0,h1,h3⟩:=h
 have hl:=fM p
 obtain⟨r,x1,x2⟩:=DH uRs p i hi
 have hw:=bJ i (h9.i hi)
 generalize p[i]=s at *
 have hb:oe s=decide (60<(bH s).length):=by unfold oe;rw[jw]
 rw[hb]
 simp only[iv] at h3
 by_cases hs:60<(bH s).length
 ·simp[LpF,iv,lpB,lpC,Tryz.f41,aF,af,aH,an,ao,aG,ag,ai,aj,ak,aC,az,FP.none,aY,au,bf,av,bK,partOf,aa,ae,ab,bh,h0,h1,h3,hl,uRs,aam,hi,x1,x2,hs,ae6,aU,qv,lZ]
 ·simp[LpF,iv,lpB,lpC,Tryz.f41,aF,af,aH,an,ao,aG,ag,ai,aj,ak,aC,az,FP.none,aY,au,bf,av,bK,partOf,aa,ae,ab,bh,h0,h1,h3,hl,uRs,aam,hi,x1,x2,hs,hw,ae6,aU,qv,lZ]
theorem Jy (L:Lst)(run:aq)(k:Nat)(p:List ByteArray)(h9:Bl p.length):∀ (n i:Nat) (fr:List PV),i+n=p.length→LpF fr p i →
  (∃ fr',(p.drop i).any oe=false∧ca (af (CC L) run k lpB) (n+1) ⟨fr,[],[]⟩=some (.exit 0,⟨fr',[],[]⟩)∧LpF fr' p p.length)∨∃ fr',(p.drop i).any oe=true∧ca (af (CC L) run k lpB) (n+1) ⟨fr,[],[]⟩=some (.ret,⟨fr',[],[]⟩)∧nth fr' 2 = .sc (.bool true)
 | 0,i,fr,hin,h=>by
  have e:i=p.length:=by omega
  subst e
  obtain⟨fr',q1,q2⟩:=acD L run k fr p h
  rw[List.drop_length]
  exact .inl ⟨fr',rfl,bz q1,q2⟩
 | n+1,i,fr,hin,h=>by
  have hi:i<p.length:=by omega
  obtain⟨fr1,q1,q2,q3⟩:=SE L run k fr p i hi h9 h
  rw[List.drop_eq_getElem_cons hi,List.any_cons]
  cases hv:oe p[i] with
  | true =>
   rw[hv] at q1
   exact .inr ⟨fr1,rfl,eH q1,q2 hv⟩
  | false =>
   rw[hv] at q1
   rw[Bool.false_or,bU q1]
   exact Jy L run k p h9 n (i+1) fr1 (by omega) (q3 hv)
noncomputable def YC:Code:=seq1 (seq1 (ah 1 lpC))
theorem SD:ah 1 lpC = .seq (.seq YC (.block 0 (.loop lpB))) (ah 2 lpC):=rfl
theorem acC (L:Lst)(run:aq)(k:Nat)(p:List ByteArray):∃ fr fr',aX (CC L) run k 1 lpC ⟨entry 19 [pE p],[],[]⟩=some ⟨fr,[],[]⟩∧af (CC L) run k YC ⟨fr,[],[]⟩=some (.normal,⟨fr',[],[]⟩)∧LpF fr' p 0:=by
 obtain⟨e1,e2⟩:=cQ 18 (pE p)
 generalize entry 19 [pE p]=fr0 at *
 obtain⟨fr,a1,a2,a3⟩:∃ fr,aX (CC L) run k 1 lpC ⟨fr0,[],[]⟩=some ⟨fr,[],[]⟩∧fr.length=19∧nth fr 0=pE p:=by
  simp[lpC,Tryz.f41,aX,e1,e2,af,aH,an,ao,aG,ag,ai,aj,ak,aC,az,FP.none,av,ae,ab]
 refine⟨fr,?_⟩
 rw[a1]
 simp[LpF,iv,YC,seq1,ah,lpC,Tryz.f41,a2,a3,af,aH,an,ao,aG,ag,ai,aj,ak,aC,az,FP.none,av,aa,ae,ab]
theorem YB (L:Lst)(run:aq)(k:Nat)(fr:List PV)(p:List ByteArray)(h:LpF fr p p.length):∃ st,af (CC L) run k (ah 2 lpC) ⟨fr,[],[]⟩=some (.ret,st)∧aV TT st.fr st.hp Tryz.f41.results.toList=some [.sc (.bool (decide (8<p.length)))]:=by
 obtain⟨h0,h1,h3⟩:=h
 have hl:=fM p
 simp[lpC,ah,Tryz.f41,h0,h1,hl,af,aH,an,ao,aG,ag,ai,aj,ak,aC,az,FP.none,aY,au,bf,av,bK,aa,ab,bh,uRs,gt8,aV]
theorem acB (fr:List PV)(hp:List Blk)(b:PV)(h:nth fr 2=b):aV TT fr hp Tryz.f41.results.toList=some [b]:=by
 simp[Tryz.f41,aV,h]
noncomputable def Hk:List PV→Option (List PV):=ctr (fun p=>[pE p]) (fun p=>Bl p.length) fun p=>[.sc (.bool (l9 p))]
theorem Hj:Ab.Spec base.P 41 Hk:=Ab.Spec.bN (C:=CC []) (cU trivial) fun args rs h=>by
 obtain⟨p,h9,rfl,rfl⟩:=db h
 obtain⟨fr,fr1,a1,a2,a3⟩:=acC [] (runK (CC []) (p.length+1)) (p.length+1) p
 have hl:=Jy [] (runK (CC []) (p.length+1)) (p.length+1) p h9 p.length 0 fr1 (by omega) a3
 rw[List.drop_zero] at hl
 show ∃ k rs1 hp1 wr rs2 ids,_∧_∧WkL rs2 [.sc (.bool (l9 p))]
 unfold l9
 rcases hl with ⟨fr2,h0,b1,b2⟩| ⟨fr2,h0,b1,b2⟩
 ·obtain⟨st,c1,c2⟩:=YB [] (runK (CC []) (p.length+1)) (p.length+1) fr2 p b2
  have hL:af (CC []) (runK (CC []) (p.length+1)) (p.length+1) (.seq YC (.block 0 (.loop lpB))) ⟨fr,[],[]⟩=some (.normal,⟨fr2,[],[]⟩):=by
   rw[aw a2];exact bF b1
  rw[← aw hL,← SD,← aM 1 a1] at c1
  rw[h0,Bool.false_or]
  exact⟨_,_,_,_,_,_,aQ tv rfl c1 c2,rfl,Wk.refl rfl,trivial⟩
 ·have hL:af (CC []) (runK (CC []) (p.length+1)) (p.length+1) lpC ⟨entry 19 [pE p],[],[]⟩=some (.ret,⟨fr2,[],[]⟩):=by
   rw[aM 1 a1,SD]
   refine cm ?_
   rw[aw a2];exact cW b1
  rw[h0,Bool.true_or]
  exact⟨_,_,_,_,_,_,aQ tv rfl hL (acB _ _ _ b2),rfl,Wk.refl rfl,trivial⟩
theorem aah {L:Lst}(hL:bu L 41=fun a=>Hk (aJ a))(run:aq)(p:List ByteArray)(h9:Bl p.length):ar L run 41 [pE p] (.sc (.bool (l9 p))) :=
 iw Ld (e:=fun p=>[pE p]) (f:=fun p=>[.sc (.bool (l9 p))]) hL (fun x y _ _ h=>by rw[G1 (p:=x) (q:=y) (by simpa using h)]) run p h9 (fun _=>rfl) (by simp only[aJ,m4])
noncomputable def lgC:Code:=Tryz.f11.body.getD .skip
noncomputable def lgB:Code:=(aF lgC).getD .skip
def LgF (fr:List PV)(c:List (List ByteArray))(i:Nat):Prop:=fr.length=28∧nth fr 0=cE c∧nth fr 3=iv i
theorem acL (L:Lst)(run:aq)(k:Nat)(fr:List PV)(c:List (List ByteArray))(h:LgF fr c c.length) :
  ∃ fr',af (CC L) run k lgB ⟨fr,[],[]⟩=some (.exit 0,⟨fr',[],[]⟩)∧LgF fr' c c.length:=by
 obtain⟨h0,h1,h3⟩:=h
 have hl:=fV c
 simp only[iv] at h3
 simp[LgF,iv,lgB,lgC,Tryz.f11,aF,af,aH,an,ao,aG,ag,ai,aj,ak,aC,az,FP.none,aY,au,bf,bK,aa,ae,ab,bh,h0,h1,h3,hl,uCl]
theorem Tb (L:Lst)(run:aq)(k:Nat)(fr:List PV)(c:List (List ByteArray))(i:Nat)(v:Bool)(hi:i<c.length)(h9:c.length<1000)(g:ar L run 41 [pE c[i]] (.sc (.bool v)))(h:LgF fr c i) :
  ∃ fr',af (CC L) run k lgB ⟨fr,[],[]⟩=some (bif v then .ret else .normal,⟨fr',[],[]⟩)∧(v=true→nth fr' 2 = .sc (.bool true))∧(v=false→LgF fr' c (i+1)):=by
 obtain⟨h0,h1,h3⟩:=h
 have hl:=fV c
 obtain⟨r,x1,x2⟩:=iu uCl c i hi
 have hw:=bJ i (by omega)
 unfold ar at g
 generalize c[i]=p at *
 simp only[iv] at h3
 cases v <;> simp[LgF,iv,lgB,lgC,Tryz.f11,aF,af,aH,an,ao,aG,ag,ai,aO,aj,ak,aC,az,FP.none,aY,au,bf,av,bK,partOf,aa,ae,ab,bh,h0,h1,h3,hl,uCl,hi,x1,x2,g,hw,aU,aPt,sPt]
theorem JA (L:Lst)(run:aq)(k:Nat)(c:List (List ByteArray))(h9:c.length<1000)(g:∀ p ∈ c,ar L run 41 [pE p] (.sc (.bool (l9 p)))):∀ (n i:Nat) (fr:List PV),i+n=c.length→LgF fr c i →
  (∃ fr',(c.drop i).any l9=false∧ca (af (CC L) run k lgB) (n+1) ⟨fr,[],[]⟩=some (.exit 0,⟨fr',[],[]⟩)∧LgF fr' c c.length)∨∃ fr',(c.drop i).any l9=true∧ca (af (CC L) run k lgB) (n+1) ⟨fr,[],[]⟩=some (.ret,⟨fr',[],[]⟩)∧nth fr' 2 = .sc (.bool true)
 | 0,i,fr,hin,h=>by
  have e:i=c.length:=by omega
  subst e
  obtain⟨fr',q1,q2⟩:=acL L run k fr c h
  rw[List.drop_length]
  exact .inl ⟨fr',rfl,bz q1,q2⟩
 | n+1,i,fr,hin,h=>by
  have hi:i<c.length:=by omega
  obtain⟨fr1,q1,q2,q3⟩:=Tb L run k fr c i _ hi h9 (g _ (List.getElem_mem hi)) h
  rw[List.drop_eq_getElem_cons hi,List.any_cons]
  cases hv:l9 c[i] with
  | true =>
   rw[hv] at q1 q2
   exact .inr ⟨fr1,rfl,eH q1,q2 rfl⟩
  | false =>
   rw[hv] at q1 q3
   rw[Bool.false_or,bU q1]
   exact JA L run k c h9 g n (i+1) fr1 (by omega) (q3 rfl)
noncomputable def YR:Code:=seq1 (seq1 (ah 2 lgC))
theorem Ta:ah 2 lgC = .seq (.seq YR (.block 0 (.loop lgB))) (ah 3 lgC):=rfl
theorem YQ (L:Lst)(run:aq)(k:Nat)(c:List (List ByteArray))(h:8<c.length∧c.length≤64∨70<c.length):∃ st,af (CC L) run k lgC ⟨entry 28 [cE c],[],[]⟩=some (.ret,st)∧aV TT st.fr st.hp Tryz.f11.results.toList=some [.sc (.bool true)]:=by
 obtain⟨e1,e2⟩:=cQ 27 (cE c)
 generalize entry 28 [cE c]=fr0 at *
 have hl:=fV c
 generalize c.length=m at *
 have a1:=gt8 m
 have a2:=lt8 m
 have a3:=ae5 m
 have a4:=aeX m
 have a5:=ae1 m
 by_cases b8:8<m
 ·by_cases b64:m≤64
  ·simp[lgC,Tryz.f11,e1,e2,af,aH,an,ao,aG,ag,ai,aj,ak,aC,az,FP.none,aY,au,bf,av,bK,aa,ae,ab,bh,hl,uCl,a1,a5,b8,b64,undef,aV]
  ·have b70:70<m:=by omega
   simp[lgC,Tryz.f11,e1,e2,af,aH,an,ao,aG,ag,ai,aj,ak,aC,az,FP.none,aY,au,bf,av,bK,aa,ae,ab,bh,hl,uCl,a1,a3,a5,b8,b64,b70,aV]
 ·omega
theorem acK (L:Lst)(run:aq)(k:Nat)(c:List (List ByteArray))(h : ¬ (8<c.length∧c.length≤64∨70<c.length)):∃ fr fr',aX (CC L) run k 2 lgC ⟨entry 28 [cE c],[],[]⟩=some ⟨fr,[],[]⟩∧af (CC L) run k YR ⟨fr,[],[]⟩=some (.normal,⟨fr',[],[]⟩)∧LgF fr' c 0:=by
 obtain⟨e1,e2⟩:=cQ 27 (cE c)
 generalize entry 28 [cE c]=fr0 at *
 have hl:=fV c
 have a1:=gt8 c.length
 have a2:=lt8 c.length
 have a3:=ae5 c.length
 have a4:=aeX c.length
 have a5:=ae1 c.length
 have b70 : ¬ 70<c.length:=fun e=>h (.inr e)
 obtain⟨fr,z1,z2,z3⟩:∃ fr,aX (CC L) run k 2 lgC ⟨fr0,[],[]⟩=some ⟨fr,[],[]⟩∧fr.length=28∧nth fr 0=cE c:=by
  by_cases b8:8<c.length
  ·have b64 : ¬ c.length≤64:=fun e=>h (.inl ⟨b8,e⟩)
   simp[lgC,Tryz.f11,aX,e1,e2,af,aH,an,ao,aG,ag,ai,aj,ak,aC,az,FP.none,aY,au,bf,av,bK,aa,ae,ab,bh,hl,uCl,a1,a3,a5,b8,b64,b70]
  ·simp[lgC,Tryz.f11,aX,e1,e2,af,aH,an,ao,aG,ag,ai,aj,ak,aC,az,FP.none,aY,au,bf,av,bK,aa,ae,ab,bh,hl,uCl,a1,a3,b8,b70,undef]
 refine⟨fr,?_⟩
 rw[z1]
 simp[LgF,iv,YR,seq1,ah,lgC,Tryz.f11,z2,z3,af,aH,an,ao,aG,ag,ai,aj,ak,aC,az,FP.none,av,aa,ae,ab]
theorem YP (L:Lst)(run:aq)(k:Nat)(fr:List PV)(c:List (List ByteArray))(h:LgF fr c c.length):∃ st,af (CC L) run k (ah 3 lgC) ⟨fr,[],[]⟩=some (.ret,st)∧aV TT st.fr st.hp Tryz.f11.results.toList=some [.sc (.bool false)]:=by
 obtain⟨h0,h1,h3⟩:=h
 simp[lgC,ah,Tryz.f11,h0,af,aH,an,ao,aG,ag,ai,aj,ak,aC,az,FP.none,av,aa,aV]
theorem acJ (fr:List PV)(hp:List Blk)(b:PV)(h:nth fr 2=b):aV TT fr hp Tryz.f11.results.toList=some [b]:=by
 simp[Tryz.f11,aV,h]
noncomputable def LV4:Lst:=[(41,Hk)]
noncomputable def Hl:List PV→Option (List PV):=ctr (fun c=>[cE c]) (fun c=>∀ p ∈ c,Bl p.length) fun c=>[.sc (.bool (n5 c))]
theorem Ng:Ab.Spec base.P 11 Hl:=Ab.Spec.bN (C:=CC LV4) (cU ⟨Hj,trivial⟩) fun args rs h=>by
 obtain⟨c,h9,rfl,rfl⟩:=db h
 show ∃ k rs1 hp1 wr rs2 ids,_∧_∧WkL rs2 [.sc (.bool (n5 c))]
 by_cases hm:8<c.length∧c.length≤64∨70<c.length
 ·have e:n5 c=true:=by
   unfold n5
   rcases hm with ⟨h1,h2⟩| h1
   ·rw[decide_eq_true h1,decide_eq_true h2];rfl
   ·rw[decide_eq_true h1];simp
  rw[e]
  obtain⟨st,x1,x2⟩:=YQ LV4 (runK (CC LV4) 1) 1 c hm
  exact⟨_,_,_,_,_,_,aQ oY rfl x1 x2,rfl,Wk.refl rfl,trivial⟩
 ·have e:n5 c=c.any l9:=by
   unfold n5
   have h1:decide (70<c.length)=false:=decide_eq_false fun e=>hm (.inr e)
   have h2:(decide (8<c.length) && decide (c.length≤64))=false:=by
    by_cases h8:8<c.length
    ·rw[decide_eq_false fun e=>hm (.inl ⟨h8,e⟩),Bool.and_false]
    ·rw[decide_eq_false h8,Bool.false_and]
   rw[h1,h2,Bool.false_or,Bool.false_or]
  have hc9:c.length<1000:=by omega
  rw[e]
  obtain⟨fr,fr1,a1,a2,a3⟩:=acK LV4 (runK (CC LV4) (c.length+1)) (c.length+1) c hm
  have hl:=JA LV4 (runK (CC LV4) (c.length+1)) (c.length+1) c hc9 (fun p hp=>aah rfl _ p (h9 p hp)) c.length 0 fr1 (by omega) a3
  rw[List.drop_zero] at hl
  rcases hl with ⟨fr2,h0,b1,b2⟩| ⟨fr2,h0,b1,b2⟩
  ·obtain⟨st,c1,c2⟩:=YP LV4 (runK (CC LV4) (c.length+1)) (c.length+1) fr2 c b2
   have hL:af (CC LV4) (runK (CC LV4) (c.length+1)) (c.length+1) (.seq YR (.block 0 (.loop lgB))) ⟨fr,[],[]⟩=some (.normal,⟨fr2,[],[]⟩):=by
    rw[aw a2];exact bF b1
   rw[← aw hL,← Ta,← aM 2 a1] at c1
   rw[h0]
   exact⟨_,_,_,_,_,_,aQ oY rfl c1 c2,rfl,Wk.refl rfl,trivial⟩
  ·have hL:af (CC LV4) (runK (CC LV4) (c.length+1)) (c.length+1) lgC ⟨entry 28 [cE c],[],[]⟩=some (.ret,⟨fr2,[],[]⟩):=by
    rw[aM 2 a1,Ta]
    refine cm ?_
    rw[aw a2];exact cW b1
   rw[h0]
   exact⟨_,_,_,_,_,_,aQ oY rfl hL (acJ _ _ _ b2),rfl,Wk.refl rfl,trivial⟩
theorem aej {L:Lst}(hL:bu L 11=fun a=>Hl (aJ a))(run:aq)(c:List (List ByteArray))(h9:∀ p ∈ c,Bl p.length):ar L run 11 [cE c] (.sc (.bool (n5 c))) :=
 iw Pf (e:=fun c=>[cE c]) (f:=fun c=>[.sc (.bool (n5 c))]) hL (fun x y _ _ h=>by rw[tY h]) run c h9 (pj · c) (nS c)
theorem DD {c:List (List ByteArray)}(h:n5 c=false):qz c:=by
 unfold n5 at h
 simp only[Bool.or_eq_false_iff,decide_eq_false_iff_not] at h
 obtain⟨h1,h2,h3⟩:=h
 refine⟨by omega,fun p hp => ?_⟩
 rw[List.any_eq_false] at h3
 have h4:=h3 p hp
 unfold l9 at h4
 simp only[Bool.or_eq_true,not_or,List.any_eq_true,decide_eq_true_eq,not_exists,not_and] at h4
 refine⟨by omega,fun s hs => ?_⟩
 have:=h4.1 s hs
 unfold oe at this
 simp only[decide_eq_true_eq] at this
 omega
theorem Im:base.F.get 27=some Tryz.f27:=by kernel_rfl
theorem O7:base.shared 27=false:=by kernel_rfl
noncomputable def sqC:Code:=Tryz.f27.body.getD .skip
noncomputable def sqB:Code:=(aF sqC).getD .skip
def sqS (X Y:List Rat):Nat→Rat
 | 0=>0
 | i+1=>sqS X Y i+(X.getD i 0 - Y.getD i 0)*(X.getD i 0 - Y.getD i 0)
def sqQ (X Y:List Rat):Rat:=sqS X Y X.length
theorem RbL.at {k:Nat}{X:List Rat}(h:RbL k X)(hk:0<k)(i:Nat):Rb k (X.getD i 0):=by
 rw[List.getD_eq_getElem?_getD]
 cases e:X[i]? with
 | none=>exact (Rb.zero 0).mono (by omega)
 | some x=>exact h x (List.mem_of_getElem? e)
theorem Fl {k:Nat}{X Y:List Rat}(hk:0<k)(hX:RbL k X)(hY:RbL k Y):∀ i,Rb (i*(4*k+3)+1) (sqS X Y i)
 | 0=>Rb.zero _
 | i+1=>by
  have h1:=Fl hk hX hY i
  have hx:=hX.at hk i
  have hy:=hY.at hk i
  have hs:=hx.sub hy
  have e:(i+1)*(4*k+3)=i*(4*k+3)+(4*k+3):=Nat.succ_mul i _
  exact (h1.add (hs.mul hs)).mono (by rw[e];omega)
def SqF (fr:List PV)(X Y:List Rat)(i:Nat):Prop:=fr.length=29∧nth fr 0=qL X∧nth fr 1=qL Y∧nth fr 5=qt (sqS X Y i)∧nth fr 6=iv i
theorem abg (L:Lst)(run:aq)(k:Nat)(fr:List PV)(X Y:List Rat)(h:SqF fr X Y X.length) :
  ∃ fr',af (CC L) run k sqB ⟨fr,[],[]⟩=some (.exit 0,⟨fr',[],[]⟩)∧SqF fr' X Y X.length:=by
 obtain⟨h0,h1,h2,h5,h6⟩:=h
 have hl:dQ (qL X)=some X.length:=by simp[qL,pE,fJ,dQ]
 simp only[iv] at h6
 simp[SqF,iv,sqB,sqC,Tryz.f27,aF,af,aH,an,ao,aG,ag,ai,aj,ak,aC,az,FP.none,aY,au,bf,bK,aa,ae,ab,bh,h0,h1,h2,h5,h6,hl,uPt]
theorem OS (L:Lst)(run:aq)(k:Nat)(fr:List PV)(P Q:PV)(i n:Nat)(a b d t s0 s:ByteArray)(r1 r2:List PV)(hi:i<n)(h9:n≤1000)(hl:dQ P=some n)(x1:bg TT 39 P (.sc (.int .i64 (i:Int)))=some (.iptr r1))(x2:r1.head?=some (.sc (.string a)))(y1:bg TT 39 Q (.sc (.int .i64 (i:Int)))=some (.iptr r2))(y2:r2.head?=some (.sc (.string b)))
  (g1:ar L run 70 [.sc (.string a),.sc (.string b)] (.sc (.string d))) (g2:ar L run 34 [.sc (.string d),.sc (.string d)] (.sc (.string t))) (g3:ar L run 24 [.sc (.string s0),.sc (.string t)] (.sc (.string s))) (h0:fr.length=29) (h1:nth fr 0=P) (h2:nth fr 1=Q) (h5:nth fr 5 = .sc (.string s0)) (h6:nth fr 6=iv i) :
  ∃ fr',af (CC L) run k sqB ⟨fr,[],[]⟩=some (.normal,⟨fr',[],[]⟩)∧fr'.length=29∧nth fr' 0=P∧nth fr' 1=Q∧nth fr' 5 = .sc (.string s)∧nth fr' 6=iv (i+1):=by
 have hw:=bJ i (by omega)
 unfold ar at g1 g2 g3
 simp only[iv] at h6
 simp[iv,sqB,sqC,Tryz.f27,aF,af,aH,an,ao,aG,ag,ai,aO,aj,ak,aC,az,FP.none,aY,au,bf,av,bK,partOf,aa,ae,ab,bh,h0,h1,h2,h5,h6,hl,hi,hw,x1,x2,y1,y2,g1,g2,g3,uPt,aU,qv,lZ,number,FP.free]
theorem tg (X:List Rat)(i:Nat)(hi:i<X.length):∃ r,bg TT 39 (qL X) (.sc (.int .i64 (i:Int)))=some (.iptr r)∧r.head?=some (.sc (.string (qb X[i]))):=by
 obtain⟨r,h1,h2⟩:=DH uPt (X.map qb) i (by simpa using hi)
 refine⟨r,h1,?_⟩
 rw[h2,List.getElem_map]
noncomputable def LSq:Lst:=[(70,mnF),(34,yD),(24,ss)]
theorem ad1:dM base.P LSq:=⟨Yx,LL,qZ,trivial⟩
theorem IT (run:aq)(k:Nat)(X Y:List Rat)(hX:RbL 1000 X)(hY:RbL 1000 Y)(h9:X.length≤10)(hl:X.length≤Y.length):∀ (n i:Nat) (fr:List PV),i+n=X.length→SqF fr X Y i →
  ∃ fr',ca (af (CC LSq) run k sqB) (n+1) ⟨fr,[],[]⟩=some (.exit 0,⟨fr',[],[]⟩)∧SqF fr' X Y X.length
 | 0,i,fr,hin,h=>by
  have e:i=X.length:=by omega
  subst e
  obtain⟨fr',q1,q2⟩:=abg LSq run k fr X Y h
  exact⟨fr',bz q1,q2⟩
 | n+1,i,fr,hin,h=>by
  have hi:i<X.length:=by omega
  have hy:i<Y.length:=by omega
  obtain⟨h0,h1,h2,h5,h6⟩:=h
  have bx:=hX.at (by omega) i
  have by':=hY.at (by omega) i
  have bs:=Fl (by omega) hX hY i
  have hi9:i*(4*1000+3)+1≤40031:=by
   have:i*4003≤10*4003:=Nat.mul_le_mul_right _ (by omega)
   exact Nat.succ_le_succ this
  have bs:=bs.mono hi9
  have bd:=bx.sub by'
  have g1:=agt (L:=LSq) rfl run bx by' (by omega) (by omega)
  have g2:=agr (L:=LSq) rfl run bd bd (by omega)
  have g3:=aee (L:=LSq) rfl run bs (bd.mul bd) (by omega)
  obtain⟨r1,x1,x2⟩:=tg X i hi
  obtain⟨r2,y1,y2⟩:=tg Y i hy
  have ex:X[i]=X.getD i 0:=by rw[List.getD_eq_getElem?_getD,List.getElem?_eq_getElem hi];rfl
  have ey:Y[i]=Y.getD i 0:=by rw[List.getD_eq_getElem?_getD,List.getElem?_eq_getElem hy];rfl
  rw[ex] at x2
  rw[ey] at y2
  have hll:dQ (qL X)=some X.length:=by simp[qL,pE,fJ,dQ]
  obtain⟨fr1,q1,q2,q3,q4,q5,q6⟩:=OS LSq run k fr (qL X) (qL Y) i X.length _ _ _ _ _ _ r1 r2 hi (by omega) hll x1 x2 y1 y2 g1 g2 g3 h0 h1 h2 h5 h6
  obtain⟨fr',s1,s2⟩:=IT run k X Y hX hY h9 hl n (i+1) fr1 (by omega) ⟨q2,q3,q4,q5,q6⟩
  exact⟨fr',by rw[bU q1];exact s1,s2⟩
noncomputable def V4:Code:=seq1 (seq1 (ah 2 sqC))
theorem abe:ah 2 sqC = .seq (.seq V4 (.block 0 (.loop sqB))) (ah 3 sqC):=rfl
theorem qb0:qb 0=⟨#[48]⟩:=by decide +kernel
theorem abf (L:Lst)(run:aq)(k:Nat)(X Y:List Rat):∃ fr fr',aX (CC L) run k 2 sqC ⟨entry 29 [qL X,qL Y],[],[]⟩=some ⟨fr,[],[]⟩∧af (CC L) run k V4 ⟨fr,[],[]⟩=some (.normal,⟨fr',[],[]⟩)∧SqF fr' X Y 0:=by
 obtain⟨e1,e2,e3⟩:=cn 27 (qL X) (qL Y)
 generalize entry 29 [qL X,qL Y]=fr0 at *
 obtain⟨fr,a1,a2,a3,a4,a5⟩:∃ fr,aX (CC L) run k 2 sqC ⟨fr0,[],[]⟩=some ⟨fr,[],[]⟩∧fr.length=29∧nth fr 0=qL X∧nth fr 1=qL Y∧nth fr 5 = .sc (.string ⟨#[48]⟩):=by
  simp[sqC,Tryz.f27,aX,e1,e2,e3,af,aH,an,ao,aG,ag,ai,aj,ak,aC,az,FP.none,av,aa,ae,ab]
 refine⟨fr,?_⟩
 rw[a1]
 rw[← qb0] at a5
 simp[SqF,iv,V4,seq1,ah,sqC,Tryz.f27,a2,a3,a4,a5,af,aH,an,ao,aG,ag,ai,aj,ak,aC,az,FP.none,av,aa,ae,ab,sqS,qt]
theorem V3 (L:Lst)(run:aq)(k:Nat)(fr:List PV)(X Y:List Rat)(h:SqF fr X Y X.length):∃ st,af (CC L) run k (ah 3 sqC) ⟨fr,[],[]⟩=some (.ret,st)∧aV TT st.fr st.hp Tryz.f27.results.toList=some [qt (sqQ X Y)]:=by
 obtain⟨h0,h1,h2,h5,h6⟩:=h
 simp[sqC,ah,Tryz.f27,h0,h5,af,aH,an,ao,aG,ag,ai,aj,ak,aC,az,FP.none,aa,ab,aV,qt,sqQ]
abbrev QQ:=List Rat × List Rat
def agb (p:QQ):Prop:=RbL 1000 p.1∧RbL 1000 p.2∧p.1.length≤10∧p.1.length≤p.2.length
noncomputable def sqF:List PV→Option (List PV):=ctr (fun p:QQ=>[qL p.1,qL p.2]) agb fun p=>[qt (sqQ p.1 p.2)]
theorem GV:Ab.Spec base.P 27 sqF:=Ab.Spec.bN (C:=CC LSq) (cU ad1) fun args rs h=>by
 obtain⟨⟨X,Y⟩,⟨hX,hY,h9,hl⟩,rfl,rfl⟩:=db h
 dsimp only at hX hY h9 hl
 obtain⟨fr,fr1,a1,a2,a3⟩:=abf LSq (runK (CC LSq) (X.length+1)) (X.length+1) X Y
 obtain⟨fr2,b1,b2⟩:=IT (runK (CC LSq) (X.length+1)) (X.length+1) X Y hX hY h9 hl X.length 0 fr1 (by omega) a3
 obtain⟨st,c1,c2⟩:=V3 LSq (runK (CC LSq) (X.length+1)) (X.length+1) fr2 X Y b2
 have hL:af (CC LSq) (runK (CC LSq) (X.length+1)) (X.length+1) (.seq V4 (.block 0 (.loop sqB))) ⟨fr,[],[]⟩=some (.normal,⟨fr2,[],[]⟩):=by
  rw[aw a2];exact bF b1
 rw[← aw hL,← abe,← aM 2 a1] at c1
 exact⟨_,_,_,_,_,_,aQ Im rfl c1 c2,rfl,Wk.refl rfl,trivial⟩
theorem afR {L:Lst}(hL:bu L 27=fun a=>sqF (aJ a))(run:aq)(dr:Bool)(hp:List Blk)(p q:PV)(X Y:List Rat)(args':List PV)(ids:List Nat)(h1:bq (snap hp bj) [p,q]=some (args',ids))(h2:aJ args'=[qL X,qL Y])(hX:RbL 1000 X)(hY:RbL 1000 Y)(h9:X.length≤10)(hl:X.length≤Y.length) :
  cb (CC L) run dr hp 27 [p,q]=some (qt (sqQ X Y),hp,⟨ids,[],false,false⟩):=by
 have h5:(CC L).orc 27 args'=some [qt (sqQ X Y)]:=by
  show bu L 27 args'=_
  rw[hL];show sqF (aJ args')=_;rw[h2]
  exact mZ (e:=fun p:QQ=>[qL p.1,qL p.2]) (x:=(X,Y)) (fun p q _ _ h=>by
   simp only[List.cons.injEq,and_true] at h
   rw[AZ h.1,AZ h.2]) ⟨hX,hY,h9,hl⟩
 exact jD O7 h1 h5 rfl
end Go.Proofs.YtjdmodeenbdfpaaGreat
namespace Go.Ab
open Go
noncomputable def fcC {β:Type}(v:PV)(c:PV→β):β :=
 match v with
 | .imm n x cs=>fcN n fun n=>fcB x fun x=>fcL cs fun cs=>c (.imm n x cs)
 | v=>fcV v c
noncomputable def ac7 {β:Type}(l:List PV):(List PV→β)→β :=
 List.rec (fun c=>c []) (fun a _ ih c=>fcC a fun a=>ih fun l=>c (a::l)) l
noncomputable def fcT {β:Type}(v:PV)(c:PV→β):β :=
 match v with
 | .agg cs=>ac7 cs fun cs=>c (.agg cs)
 | v=>fcC v c
noncomputable def ac4 {β:Type}(l:List PV):(List PV→β)→β :=
 List.rec (fun c=>c []) (fun a _ ih c=>fcT a fun a=>ih fun l=>c (a::l)) l
theorem TC {β:Type}(v:PV)(c:PV→β):fcC v c=c v:=by
 unfold fcC
 split
 ·rw[rJ,TD,ky]
 ·exact Hu v c
theorem JP {β:Type} : ∀ (l:List PV) (c:List PV→β),ac7 l c=c l
 | [],_=>rfl
 | a::l,c=>by
  show fcC a (fun a=>ac7 l fun l=>c (a::l))=_
  rw[TC,JP l]
theorem ac3 {β:Type}(v:PV)(c:PV→β):fcT v c=c v:=by
 unfold fcT
 split
 ·rw[JP]
 ·exact TC v c
theorem JO {β:Type} : ∀ (l:List PV) (c:List PV→β),ac4 l c=c l
 | [],_=>rfl
 | a::l,c=>by
  show fcT a (fun a=>ac4 l fun l=>c (a::l))=_
  rw[ac3,JO l]
def xk:PV→PV
 | .sc v=>match v with
  | .slice none 0 0=>.imm 0 false []
  | v=>.sc v
 | .imm n _ cs=>.imm n false cs
 | v=>v
def m6:PV→PV
 | .agg cs=>.agg (cs.map xk)
 | v=>xk v
theorem z8 (p:PV)(h:p.cC=true):Wk p (xk p):=by
 unfold xk
 split
 ·split
  ·exact Wk.nil false
  ·exact Wk.refl h
 ·exact Wk.imm _ _ _
 ·exact Wk.refl h
theorem II:∀ (cs:List PV),bM cs=true→WkL cs (cs.map xk)
 | [],_=>trivial
 | c::cs,h=>by
  simp only[bM,Bool.and_eq_true] at h
  exact⟨z8 c h.1,II cs h.2⟩
theorem z7 (p:PV)(h:p.cC=true):Wk p (m6 p):=by
 unfold m6
 split
 ·exact Wk.agg (II _ (by simpa [PV.cC] using h))
 ·exact z8 p h
theorem s9:∀ (cs:List PV),bM cs=true→bM (cs.map m6)=true
 | [],_=>rfl
 | c::cs,h=>by
  simp only[bM,Bool.and_eq_true] at h
  simp only[List.map_cons,bM,Bool.and_eq_true]
  exact⟨(z7 c h.1).1,s9 cs h.2⟩
theorem Spec.m6 {P:Program}{g:FuncId}{f:List PV→Option (List PV)}(h:Spec P g f):Spec P g fun a=>f (a.map Ab.m6):=by
 intro args rs hf hi
 obtain⟨h1,h2⟩:=h (args.map Ab.m6) rs hf (s9 args hi)
 refine⟨h1,fun w M vs hM hvs=>h2 w M vs hM ⟨by rw[List.length_map];exact hvs.1,fun k c v e1 e2 => ?_⟩⟩
 rw[List.getElem?_map] at e1
 obtain⟨c',h5,rfl⟩:=Option.map_eq_some_iff.1 e1
 exact (z7 c' (dZ hi h5)).2 w M v (hvs.2 k c' v h5 e2)
abbrev OT:=Tr (List PV→Option (List PV))
noncomputable def fcO (o:Option (List PV)):Option (List PV):=match o with
 | some rs=>ac4 rs fun rs=>some rs
 | none=>none
theorem ac5 (o:Option (List PV)):fcO o=o:=by
 cases o with
 | none=>rfl
 | some rs=>exact JO rs _
noncomputable def R0 (t:OT):Nat→List PV→Option (List PV):=fun g a=>match t.get g with
 | some f=>fcO (f (a.map m6))
 | none=>none
theorem RZ {P:Program}{t:OT}(h:t.All fun n f=>Spec P n f)(g:Nat):Spec P g (R0 t g):=by
 unfold R0
 cases e:t.get g with
 | none=>exact Spec.no P g
 | some f =>
  have h1:=(Tr.pQ t h g f e).m6
  simp only[ac5]
  exact h1
def yes:Option (List PV × FT Blk × Nat × List Nat)→Bool
 | some ([.sc (.bool b)],_)=>b
 | _=>false
theorem aaV {C:Cfg}{k:Nat}{g:FuncId}{args:List PV}(h:yes (runT C k g args .lf 0)=true):∃ hp w,runK C k g args []=some ([.sc (.bool true)],hp,w):=by
 unfold yes at h
 split at h
 ·rename_i b x e
  subst h
  obtain⟨t',m',w⟩:=x
  obtain⟨hp',h1,h2⟩:=Jb C k g args .lf 0 _ _ _ _ e [] (by exact⟨rfl,fun i hi=>by simp at hi⟩)
  exact⟨hp',w,h1⟩
 ·cases h
def aaK:Int→Int→Bool
 | .ofNat a,.ofNat b=>a.beq b
 | .negSucc a,.negSucc b=>a.beq b
 | _,_=>false
theorem TP:∀ {a b:Int},aaK a b=true→a=b
 | .ofNat a,.ofNat b,h=>by rw[Nat.eq_of_beq_eq_true h]
 | .negSucc a,.negSucc b,h=>by rw[Nat.eq_of_beq_eq_true h]
 | .ofNat _,.negSucc _,h=>by cases h
 | .negSucc _,.ofNat _,h=>by cases h
def eqB:Bool→Bool→Bool
 | true,true=>true
 | false,false=>true
 | _,_=>false
theorem TQ:∀ {a b:Bool},eqB a b=true→a=b
 | true,true,_=>rfl
 | false,false,_=>rfl
 | true,false,h=>by cases h
 | false,true,h=>by cases h
theorem zL:∀ {a b:List UInt8},eqL a b=true→a=b
 | [],[],_=>rfl
 | a::x,b::y,h=>by
  simp only[eqL,Bool.and_eq_true,beq_iff_eq] at h
  rw[zL h.2,UInt8.toNat_inj.1 h.1]
 | [],_::_,h=>by simp[eqL] at h
 | _::_,[],h=>by simp[eqL] at h
def pV (e:PV→PV→Bool):List PV→List PV→Bool
 | [],[]=>true
 | a::x,b::y=>e a b && pV e x y
 | _,_=>false
theorem pU {e:PV→PV→Bool}(h:∀ a b,e a b=true→a=b):∀ {x y:List PV},pV e x y=true→x=y
 | [],[],_=>rfl
 | a::x,b::y,hh=>by
  simp only[pV,Bool.and_eq_true] at hh
  rw[h a b hh.1,pU h hh.2]
 | [],_::_,hh=>by simp[pV] at hh
 | _::_,[],hh=>by simp[pV] at hh
def eqP:Nat→PV→PV→Bool
 | 0,_,_=>false
 | k+1,a,b=>match a,b with
  | .sc (.int i m),.sc (.int j n)=>eqK i j && aaK m n
  | .sc (.bool m),.sc (.bool n)=>eqB m n
  | .sc (.string s),.sc (.string t)=>eqL (bH s) (bH t)
  | .imm m x cs,.imm n y ds=>m.beq n && (eqB x y && pV (eqP k) cs ds)
  | .agg cs,.agg ds=>pV (eqP k) cs ds
  | _,_=>false
theorem Hx:∀ (k:Nat) (a b:PV),eqP k a b=true→a=b
 | 0,a,b,h=>by cases h
 | k+1,a,b,h=>by
  unfold eqP at h
  split at h
  ·simp only[Bool.and_eq_true] at h
   rw[Eb h.1,TP h.2]
  ·rw[TQ h]
  ·rename_i s t
   have:=zL h
   rw[← fx s,← fx t,this]
  ·simp only[Bool.and_eq_true] at h
   rw[Nat.eq_of_beq_eq_true h.1,TQ h.2.1,pU (Hx k) h.2.2]
  ·rw[pU (Hx k) h]
  ·cases h
def Jx (args:List PV):List PV→Option (List PV):=fun a=>bif pV (eqP 8) (aJ a) args then some [.sc (.bool true)] else none
theorem MW {C:Cfg}(hC:qE C){k:Nat}{g:FuncId}{args:List PV}(h:yes (runT C k g args .lf 0)=true):Spec C.P g (Jx args):=by
 obtain⟨hp,w,hr⟩:=aaV h
 have h1:Spec C.P g fun a=>bif pV (eqP 8) a args then some [.sc (.bool true)] else .none :=
  Spec.acg hC (fun a ha=>pU (Hx 8) ha) ⟨k,_,_,_,[.sc (.bool true)],[],hr,rfl,Wk.refl rfl,trivial⟩
 exact h1.canon
end Go.Ab
namespace Go.Proofs.YtjdmodeenbdfpaaGreat
open Go Go.Ab
noncomputable def aeQ:OT:=(.node 146 (pn) (.node 97 (ofF) (.node 56 (mq) (.node 49 (jj) (.node 43 (mr) (.node 38 (abD) .leaf .leaf) .leaf) (.node 55 (uV) .leaf .leaf)) (.node 95 (Bj) (.node 94 (zp) (.node 87 (iT) .leaf .leaf) .leaf) (.node 96 (rM) .leaf .leaf))) (.node 108 (rrF) (.node 105 (G9) (.node 104 (pI) (.node 101 (jo) .leaf .leaf) .leaf) (.node 106 (j0) .leaf .leaf)) (.node 142 (pP) (.node 139 (tE) (.node 129 (P6) .leaf .leaf) .leaf) (.node 145 (lR) .leaf .leaf)))) (.node 165 (ya) (.node 153 (mY) (.node 151 (Nx) (.node 150 (xM) (.node 149 (tz) .leaf .leaf) .leaf) (.node 152 (fP) .leaf .leaf)) (.node 161 (rE) (.node 160 (y5) (.node 154 (vg) .leaf .leaf) .leaf) (.node 164 (uH) .leaf .leaf))) (.node 170 (iQ) (.node 168 (KM) (.node 167 (jn) (.node 166 (jJ) .leaf .leaf) .leaf) (.node 169 (mY) .leaf .leaf)) (.node 184 (iQ) (.node 183 (pO) (.node 181 (lr) .leaf .leaf) .leaf) (.node 191 (ibF) .leaf .leaf)))))
theorem XK:aeQ.All fun n f=>Ab.Spec base.P n f:=⟨qM,⟨nI,⟨yz,⟨lv,⟨oz,⟨PT,trivial,trivial⟩,trivial⟩,⟨yv,trivial,trivial⟩⟩,⟨wZ,⟨zj,⟨qY,trivial,trivial⟩,trivial⟩,⟨qf,trivial,trivial⟩⟩⟩,⟨AD,⟨wb,⟨rB,⟨kM,trivial,trivial⟩,trivial⟩,⟨qU,trivial,trivial⟩⟩,⟨th,⟨qu,⟨LC,trivial,trivial⟩,trivial⟩,⟨tm,trivial,trivial⟩⟩⟩⟩,⟨x8,⟨zU,⟨Ef,⟨wE,⟨pN,trivial,trivial⟩,trivial⟩,⟨jX,trivial,trivial⟩⟩,⟨wc,⟨yZ,⟨yA,trivial,trivial⟩,trivial⟩,⟨uF,trivial,trivial⟩⟩⟩,⟨Eo,⟨BU,⟨jB,⟨oH,trivial,trivial⟩,trivial⟩,⟨wv,trivial,trivial⟩⟩,⟨zr,⟨tb,⟨ov,trivial,trivial⟩,trivial⟩,⟨JE,trivial,trivial⟩⟩⟩⟩⟩
noncomputable def CE:Cfg:=base.cfg (R0 aeQ)
theorem agn:qE CE:=U2.cfg (RZ XK)
end Go.Proofs.YtjdmodeenbdfpaaGreat
