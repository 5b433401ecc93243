/- Contracts of the law and of what it calls, and facts about determinants, part 45 of the proof; each lemma states its own conditions. -/
import Derived.Test.YtjdmodeenbdfpaaGreatP44
import Derived.Test.YtjdmodeenbdfpaaGreatP25
import Derived.Test.YtjdmodeenbdfpaaGreatP12
import Derived.Test.YtjdmodeenbdfpaaGreatP28
set_option linter.unusedSimpArgs false
set_option linter.unusedVariables false
namespace Go.Proofs.YtjdmodeenbdfpaaGreat
open Go Go.Ab
theorem ZC:und TT 27=some .string:=by kernel_rfl
theorem oJ:base.F.get 11=some Tryz.f11:=by kernel_rfl
theorem OO:base.shared 11=false:=by kernel_rfl
theorem ta:base.F.get 41=some Tryz.f41:=by kernel_rfl
theorem KL:base.shared 41=false:=by kernel_rfl
def Bl (n:Nat):Prop:=n<4611686018427387904
theorem Bl.i {n m:Nat}(h:Bl n)(hm:m<n):m<9223372036854775807:=Nat.lt_trans hm (Nat.lt_trans h (by decide))
def nV (s:ByteArray):Bool:=decide (60<(bys s).length)
def lQ (p:List ByteArray):Bool:=p.any nV || decide (8<p.length)
def nN (c:List (List ByteArray)):Bool:=(decide (8<c.length) && decide (c.length≤64)) || (decide (70<c.length) || c.any lQ)
noncomputable def lpC:Code:=Tryz.f41.body.getD .skip
noncomputable def lpB:Code:=(aF lpC).getD .skip
def LpF (fr:List PV)(p:List ByteArray)(i:Nat):Prop:=fr.length=19∧nth fr 0=pE p∧nth fr 3=iv i
theorem ad8 (m:Nat):((m:Int) > 60)=(60<m):=by apply propext;omega
theorem gt8 (m:Nat):((m:Int) > 8)=(8<m):=by apply propext;omega
theorem lt8 (m:Nat):((8:Int)<(m:Int))=(8<m):=by apply propext;omega
theorem ad7 (m:Nat):((m:Int) > 70)=(70<m):=by apply propext;omega
theorem adZ (m:Nat):((70:Int)<(m:Int))=(70<m):=by apply propext;omega
theorem ad5 (m:Nat):((m:Int)≤64)=(m≤64):=by apply propext;omega
theorem abH (L:Lst)(run:aq)(k:Nat)(fr:List PV)(p:List ByteArray)(h:LpF fr p p.length) :
  ∃ fr',af (CC L) run k lpB ⟨fr,[],[]⟩=some (.exit 0,⟨fr',[],[]⟩)∧LpF fr' p p.length:=by
 obtain⟨h0,h1,h3⟩:=h
 have hl:=gw p
 simp only[iv] at h3
 simp[LpF,iv,lpB,lpC,Tryz.f41,aF,af,aH,an,ao,aG,ag,ai,aj,ak,aC,az,FP.none,bc,ar,bd,bH,aa,ae,ab,bf,h0,h1,h3,hl,uRs]
theorem R6 (L:Lst)(run:aq)(k:Nat)(fr:List PV)(p:List ByteArray)(i:Nat)(hi:i<p.length)(h9:Bl p.length)(h:LpF fr p i) :
  ∃ fr',af (CC L) run k lpB ⟨fr,[],[]⟩=some (bif nV p[i] then .ret else .normal,⟨fr',[],[]⟩)∧(nV p[i]=true→nth fr' 2 = .sc (.bool true))∧(nV p[i]=false→LpF fr' p (i+1)):=by
 obtain⟨h0,h1,h3⟩:=h
 have hl:=gw p
 obtain⟨r,x1,x2⟩:=I9 uRs p i hi
 have hw:=bF i (h9.i hi)
 generalize p[i]=s at *
 have hb:nV s=decide (60<(bD s).length):=by unfold nV;rw[jn]
 rw[hb]
 simp only[iv] at h3
 by_cases hs:60<(bD s).length
 ·simp[LpF,iv,lpB,lpC,Tryz.f41,aF,af,aH,an,ao,aG,ag,ai,aj,ak,aC,az,FP.none,bc,ar,bd,au,bH,partOf,aa,ae,ab,bf,h0,h1,h3,hl,uRs,ZC,hi,x1,x2,hs,ad8,aU,Ep,x8]
 ·simp[LpF,iv,lpB,lpC,Tryz.f41,aF,af,aH,an,ao,aG,ag,ai,aj,ak,aC,az,FP.none,bc,ar,bd,au,bH,partOf,aa,ae,ab,bf,h0,h1,h3,hl,uRs,ZC,hi,x1,x2,hs,hw,ad8,aU,Ep,x8]
theorem I6 (L:Lst)(run:aq)(k:Nat)(p:List ByteArray)(h9:Bl p.length):∀ (n i:Nat) (fr:List PV),i+n=p.length→LpF fr p i →
  (∃ fr',(p.drop i).any nV=false∧bX (af (CC L) run k lpB) (n+1) ⟨fr,[],[]⟩=some (.exit 0,⟨fr',[],[]⟩)∧LpF fr' p p.length)∨∃ fr',(p.drop i).any nV=true∧bX (af (CC L) run k lpB) (n+1) ⟨fr,[],[]⟩=some (.ret,⟨fr',[],[]⟩)∧nth fr' 2 = .sc (.bool true)
 | 0,i,fr,hin,h=>by
  have e:i=p.length:=by omega
  subst e
  obtain⟨fr',q1,q2⟩:=abH L run k fr p h
  rw[List.drop_length]
  exact .inl ⟨fr',rfl,bw q1,q2⟩
 | n+1,i,fr,hin,h=>by
  have hi:i<p.length:=by omega
  obtain⟨fr1,q1,q2,q3⟩:=R6 L run k fr p i hi h9 h
  rw[List.drop_eq_getElem_cons hi,List.any_cons]
  cases hv:nV p[i] with
  | true =>
   rw[hv] at q1
   exact .inr ⟨fr1,rfl,eN q1,q2 hv⟩
  | false =>
   rw[hv] at q1
   rw[Bool.false_or,bV q1]
   exact I6 L run k p h9 n (i+1) fr1 (by omega) (q3 hv)
noncomputable def XQ:Code:=seq1 (seq1 (ah 1 lpC))
theorem R5:ah 1 lpC = .seq (.seq XQ (.block 0 (.loop lpB))) (ah 2 lpC):=rfl
theorem abG (L:Lst)(run:aq)(k:Nat)(p:List ByteArray):∃ fr fr',aY (CC L) run k 1 lpC ⟨entry 19 [pE p],[],[]⟩=some ⟨fr,[],[]⟩∧af (CC L) run k XQ ⟨fr,[],[]⟩=some (.normal,⟨fr',[],[]⟩)∧LpF fr' p 0:=by
 obtain⟨e1,e2⟩:=cP 18 (pE p)
 generalize entry 19 [pE p]=fr0 at *
 obtain⟨fr,a1,a2,a3⟩:∃ fr,aY (CC L) run k 1 lpC ⟨fr0,[],[]⟩=some ⟨fr,[],[]⟩∧fr.length=19∧nth fr 0=pE p:=by
  simp[lpC,Tryz.f41,aY,e1,e2,af,aH,an,ao,aG,ag,ai,aj,ak,aC,az,FP.none,au,ae,ab]
 refine⟨fr,?_⟩
 rw[a1]
 simp[LpF,iv,XQ,seq1,ah,lpC,Tryz.f41,a2,a3,af,aH,an,ao,aG,ag,ai,aj,ak,aC,az,FP.none,au,aa,ae,ab]
theorem XP (L:Lst)(run:aq)(k:Nat)(fr:List PV)(p:List ByteArray)(h:LpF fr p p.length):∃ st,af (CC L) run k (ah 2 lpC) ⟨fr,[],[]⟩=some (.ret,st)∧aZ TT st.fr st.hp Tryz.f41.results.toList=some [.sc (.bool (decide (8<p.length)))]:=by
 obtain⟨h0,h1,h3⟩:=h
 have hl:=gw p
 simp[lpC,ah,Tryz.f41,h0,h1,hl,af,aH,an,ao,aG,ag,ai,aj,ak,aC,az,FP.none,bc,ar,bd,au,bH,aa,ab,bf,uRs,gt8,aZ]
theorem abF (fr:List PV)(hp:List Blk)(b:PV)(h:nth fr 2=b):aZ TT fr hp Tryz.f41.results.toList=some [b]:=by
 simp[Tryz.f41,aZ,h]
noncomputable def GW:List PV→Option (List PV):=ctr (fun p=>[pE p]) (fun p=>Bl p.length) fun p=>[.sc (.bool (lQ p))]
theorem GV:Ab.Spec base.P 41 GW:=Ab.Spec.bL (C:=CC []) (cU trivial) fun args rs h=>by
 obtain⟨p,h9,rfl,rfl⟩:=dj h
 obtain⟨fr,fr1,a1,a2,a3⟩:=abG [] (runK (CC []) (p.length+1)) (p.length+1) p
 have hl:=I6 [] (runK (CC []) (p.length+1)) (p.length+1) p h9 p.length 0 fr1 (by omega) a3
 rw[List.drop_zero] at hl
 show ∃ k rs1 hp1 wr rs2 ids,_∧_∧WkL rs2 [.sc (.bool (lQ p))]
 unfold lQ
 rcases hl with ⟨fr2,h0,b1,b2⟩| ⟨fr2,h0,b1,b2⟩
 ·obtain⟨st,c1,c2⟩:=XP [] (runK (CC []) (p.length+1)) (p.length+1) fr2 p b2
  have hL:af (CC []) (runK (CC []) (p.length+1)) (p.length+1) (.seq XQ (.block 0 (.loop lpB))) ⟨fr,[],[]⟩=some (.normal,⟨fr2,[],[]⟩):=by
   rw[aw a2];exact bE b1
  rw[← aw hL,← R5,← aO 1 a1] at c1
  rw[h0,Bool.false_or]
  exact⟨_,_,_,_,_,_,aQ ta rfl c1 c2,rfl,Wk.refl rfl,trivial⟩
 ·have hL:af (CC []) (runK (CC []) (p.length+1)) (p.length+1) lpC ⟨entry 19 [pE p],[],[]⟩=some (.ret,⟨fr2,[],[]⟩):=by
   rw[aO 1 a1,R5]
   refine cg ?_
   rw[aw a2];exact cW b1
  rw[h0,Bool.true_or]
  exact⟨_,_,_,_,_,_,aQ ta rfl hL (abF _ _ _ b2),rfl,Wk.refl rfl,trivial⟩
theorem Zx {L:Lst}(hL:bt L 41=fun a=>GW (aJ a))(run:aq)(p:List ByteArray)(h9:Bl p.length):av L run 41 [pE p] (.sc (.bool (lQ p))) :=
 jf KL (e:=fun p=>[pE p]) (f:=fun p=>[.sc (.bool (lQ p))]) hL (fun x y _ _ h=>by rw[Gy (p:=x) (q:=y) (by simpa using h)]) run p h9 (fun _=>rfl) (by simp only[aJ,DY])
noncomputable def lgC:Code:=Tryz.f11.body.getD .skip
noncomputable def lgB:Code:=(aF lgC).getD .skip
def LgF (fr:List PV)(c:List (List ByteArray))(i:Nat):Prop:=fr.length=28∧nth fr 0=cE c∧nth fr 3=iv i
theorem abN (L:Lst)(run:aq)(k:Nat)(fr:List PV)(c:List (List ByteArray))(h:LgF fr c c.length) :
  ∃ fr',af (CC L) run k lgB ⟨fr,[],[]⟩=some (.exit 0,⟨fr',[],[]⟩)∧LgF fr' c c.length:=by
 obtain⟨h0,h1,h3⟩:=h
 have hl:=gx c
 simp only[iv] at h3
 simp[LgF,iv,lgB,lgC,Tryz.f11,aF,af,aH,an,ao,aG,ag,ai,aj,ak,aC,az,FP.none,bc,ar,bd,bH,aa,ae,ab,bf,h0,h1,h3,hl,uCl]
theorem Sr (L:Lst)(run:aq)(k:Nat)(fr:List PV)(c:List (List ByteArray))(i:Nat)(v:Bool)(hi:i<c.length)(h9:c.length<1000)(g:av L run 41 [pE c[i]] (.sc (.bool v)))(h:LgF fr c i) :
  ∃ fr',af (CC L) run k lgB ⟨fr,[],[]⟩=some (bif v then .ret else .normal,⟨fr',[],[]⟩)∧(v=true→nth fr' 2 = .sc (.bool true))∧(v=false→LgF fr' c (i+1)):=by
 obtain⟨h0,h1,h3⟩:=h
 have hl:=gx c
 obtain⟨r,x1,x2⟩:=je uCl c i hi
 have hw:=bF i (by omega)
 unfold av at g
 generalize c[i]=p at *
 simp only[iv] at h3
 cases v <;> simp[LgF,iv,lgB,lgC,Tryz.f11,aF,af,aH,an,ao,aG,ag,ai,aP,aj,ak,aC,az,FP.none,bc,ar,bd,au,bH,partOf,aa,ae,ab,bf,h0,h1,h3,hl,uCl,hi,x1,x2,g,hw,aU,aPt,sPt]
theorem I8 (L:Lst)(run:aq)(k:Nat)(c:List (List ByteArray))(h9:c.length<1000)(g:∀ p ∈ c,av L run 41 [pE p] (.sc (.bool (lQ p)))):∀ (n i:Nat) (fr:List PV),i+n=c.length→LgF fr c i →
  (∃ fr',(c.drop i).any lQ=false∧bX (af (CC L) run k lgB) (n+1) ⟨fr,[],[]⟩=some (.exit 0,⟨fr',[],[]⟩)∧LgF fr' c c.length)∨∃ fr',(c.drop i).any lQ=true∧bX (af (CC L) run k lgB) (n+1) ⟨fr,[],[]⟩=some (.ret,⟨fr',[],[]⟩)∧nth fr' 2 = .sc (.bool true)
 | 0,i,fr,hin,h=>by
  have e:i=c.length:=by omega
  subst e
  obtain⟨fr',q1,q2⟩:=abN L run k fr c h
  rw[List.drop_length]
  exact .inl ⟨fr',rfl,bw q1,q2⟩
 | n+1,i,fr,hin,h=>by
  have hi:i<c.length:=by omega
  obtain⟨fr1,q1,q2,q3⟩:=Sr L run k fr c i _ hi h9 (g _ (List.getElem_mem hi)) h
  rw[List.drop_eq_getElem_cons hi,List.any_cons]
  cases hv:lQ c[i] with
  | true =>
   rw[hv] at q1 q2
   exact .inr ⟨fr1,rfl,eN q1,q2 rfl⟩
  | false =>
   rw[hv] at q1 q3
   rw[Bool.false_or,bV q1]
   exact I8 L run k c h9 g n (i+1) fr1 (by omega) (q3 rfl)
noncomputable def X3:Code:=seq1 (seq1 (ah 2 lgC))
theorem Sp:ah 2 lgC = .seq (.seq X3 (.block 0 (.loop lgB))) (ah 3 lgC):=rfl
theorem X2 (L:Lst)(run:aq)(k:Nat)(c:List (List ByteArray))(h:8<c.length∧c.length≤64∨70<c.length):∃ st,af (CC L) run k lgC ⟨entry 28 [cE c],[],[]⟩=some (.ret,st)∧aZ TT st.fr st.hp Tryz.f11.results.toList=some [.sc (.bool true)]:=by
 obtain⟨e1,e2⟩:=cP 27 (cE c)
 generalize entry 28 [cE c]=fr0 at *
 have hl:=gx c
 generalize c.length=m at *
 have a1:=gt8 m
 have a2:=lt8 m
 have a3:=ad7 m
 have a4:=adZ m
 have a5:=ad5 m
 by_cases b8:8<m
 ·by_cases b64:m≤64
  ·simp[lgC,Tryz.f11,e1,e2,af,aH,an,ao,aG,ag,ai,aj,ak,aC,az,FP.none,bc,ar,bd,au,bH,aa,ae,ab,bf,hl,uCl,a1,a5,b8,b64,undef,aZ]
  ·have b70:70<m:=by omega
   simp[lgC,Tryz.f11,e1,e2,af,aH,an,ao,aG,ag,ai,aj,ak,aC,az,FP.none,bc,ar,bd,au,bH,aa,ae,ab,bf,hl,uCl,a1,a3,a5,b8,b64,b70,aZ]
 ·omega
theorem abM (L:Lst)(run:aq)(k:Nat)(c:List (List ByteArray))(h : ¬ (8<c.length∧c.length≤64∨70<c.length)):∃ fr fr',aY (CC L) run k 2 lgC ⟨entry 28 [cE c],[],[]⟩=some ⟨fr,[],[]⟩∧af (CC L) run k X3 ⟨fr,[],[]⟩=some (.normal,⟨fr',[],[]⟩)∧LgF fr' c 0:=by
 obtain⟨e1,e2⟩:=cP 27 (cE c)
 generalize entry 28 [cE c]=fr0 at *
 have hl:=gx c
 have a1:=gt8 c.length
 have a2:=lt8 c.length
 have a3:=ad7 c.length
 have a4:=adZ c.length
 have a5:=ad5 c.length
 have b70 : ¬ 70<c.length:=fun e=>h (.inr e)
 obtain⟨fr,z1,z2,z3⟩:∃ fr,aY (CC L) run k 2 lgC ⟨fr0,[],[]⟩=some ⟨fr,[],[]⟩∧fr.length=28∧nth fr 0=cE c:=by
  by_cases b8:8<c.length
  ·have b64 : ¬ c.length≤64:=fun e=>h (.inl ⟨b8,e⟩)
   simp[lgC,Tryz.f11,aY,e1,e2,af,aH,an,ao,aG,ag,ai,aj,ak,aC,az,FP.none,bc,ar,bd,au,bH,aa,ae,ab,bf,hl,uCl,a1,a3,a5,b8,b64,b70]
  ·simp[lgC,Tryz.f11,aY,e1,e2,af,aH,an,ao,aG,ag,ai,aj,ak,aC,az,FP.none,bc,ar,bd,au,bH,aa,ae,ab,bf,hl,uCl,a1,a3,b8,b70,undef]
 refine⟨fr,?_⟩
 rw[z1]
 simp[LgF,iv,X3,seq1,ah,lgC,Tryz.f11,z2,z3,af,aH,an,ao,aG,ag,ai,aj,ak,aC,az,FP.none,au,aa,ae,ab]
theorem X1 (L:Lst)(run:aq)(k:Nat)(fr:List PV)(c:List (List ByteArray))(h:LgF fr c c.length):∃ st,af (CC L) run k (ah 3 lgC) ⟨fr,[],[]⟩=some (.ret,st)∧aZ TT st.fr st.hp Tryz.f11.results.toList=some [.sc (.bool false)]:=by
 obtain⟨h0,h1,h3⟩:=h
 simp[lgC,ah,Tryz.f11,h0,af,aH,an,ao,aG,ag,ai,aj,ak,aC,az,FP.none,au,aa,aZ]
theorem abL (fr:List PV)(hp:List Blk)(b:PV)(h:nth fr 2=b):aZ TT fr hp Tryz.f11.results.toList=some [b]:=by
 simp[Tryz.f11,aZ,h]
noncomputable def LV4:Lst:=[(41,GW)]
noncomputable def GX:List PV→Option (List PV):=ctr (fun c=>[cE c]) (fun c=>∀ p ∈ c,Bl p.length) fun c=>[.sc (.bool (nN c))]
theorem MK:Ab.Spec base.P 11 GX:=Ab.Spec.bL (C:=CC LV4) (cU ⟨GV,trivial⟩) fun args rs h=>by
 obtain⟨c,h9,rfl,rfl⟩:=dj h
 show ∃ k rs1 hp1 wr rs2 ids,_∧_∧WkL rs2 [.sc (.bool (nN c))]
 by_cases hm:8<c.length∧c.length≤64∨70<c.length
 ·have e:nN c=true:=by
   unfold nN
   rcases hm with ⟨h1,h2⟩| h1
   ·rw[decide_eq_true h1,decide_eq_true h2];rfl
   ·rw[decide_eq_true h1];simp
  rw[e]
  obtain⟨st,x1,x2⟩:=X2 LV4 (runK (CC LV4) 1) 1 c hm
  exact⟨_,_,_,_,_,_,aQ oJ rfl x1 x2,rfl,Wk.refl rfl,trivial⟩
 ·have e:nN c=c.any lQ:=by
   unfold nN
   have h1:decide (70<c.length)=false:=decide_eq_false fun e=>hm (.inr e)
   have h2:(decide (8<c.length) && decide (c.length≤64))=false:=by
    by_cases h8:8<c.length
    ·rw[decide_eq_false fun e=>hm (.inl ⟨h8,e⟩),Bool.and_false]
    ·rw[decide_eq_false h8,Bool.false_and]
   rw[h1,h2,Bool.false_or,Bool.false_or]
  have hc9:c.length<1000:=by omega
  rw[e]
  obtain⟨fr,fr1,a1,a2,a3⟩:=abM LV4 (runK (CC LV4) (c.length+1)) (c.length+1) c hm
  have hl:=I8 LV4 (runK (CC LV4) (c.length+1)) (c.length+1) c hc9 (fun p hp=>Zx rfl _ p (h9 p hp)) c.length 0 fr1 (by omega) a3
  rw[List.drop_zero] at hl
  rcases hl with ⟨fr2,h0,b1,b2⟩| ⟨fr2,h0,b1,b2⟩
  ·obtain⟨st,c1,c2⟩:=X1 LV4 (runK (CC LV4) (c.length+1)) (c.length+1) fr2 c b2
   have hL:af (CC LV4) (runK (CC LV4) (c.length+1)) (c.length+1) (.seq X3 (.block 0 (.loop lgB))) ⟨fr,[],[]⟩=some (.normal,⟨fr2,[],[]⟩):=by
    rw[aw a2];exact bE b1
   rw[← aw hL,← Sp,← aO 2 a1] at c1
   rw[h0]
   exact⟨_,_,_,_,_,_,aQ oJ rfl c1 c2,rfl,Wk.refl rfl,trivial⟩
  ·have hL:af (CC LV4) (runK (CC LV4) (c.length+1)) (c.length+1) lgC ⟨entry 28 [cE c],[],[]⟩=some (.ret,⟨fr2,[],[]⟩):=by
    rw[aO 2 a1,Sp]
    refine cg ?_
    rw[aw a2];exact cW b1
   rw[h0]
   exact⟨_,_,_,_,_,_,aQ oJ rfl hL (abL _ _ _ b2),rfl,Wk.refl rfl,trivial⟩
theorem adj {L:Lst}(hL:bt L 11=fun a=>GX (aJ a))(run:aq)(c:List (List ByteArray))(h9:∀ p ∈ c,Bl p.length):av L run 11 [cE c] (.sc (.bool (nN c))) :=
 jf OO (e:=fun c=>[cE c]) (f:=fun c=>[.sc (.bool (nN c))]) hL (fun x y _ _ h=>by rw[tI h]) run c h9 (o0 · c) (nG c)
theorem Dj {c:List (List ByteArray)}(h:nN c=false):qe c:=by
 unfold nN at h
 simp only[Bool.or_eq_false_iff,decide_eq_false_iff_not] at h
 obtain⟨h1,h2,h3⟩:=h
 refine⟨by omega,fun p hp => ?_⟩
 rw[List.any_eq_false] at h3
 have h4:=h3 p hp
 unfold lQ at h4
 simp only[Bool.or_eq_true,not_or,List.any_eq_true,decide_eq_true_eq,not_exists,not_and] at h4
 refine⟨by omega,fun s hs => ?_⟩
 have:=h4.1 s hs
 unfold nV at this
 simp only[decide_eq_true_eq] at this
 omega
end Go.Proofs.YtjdmodeenbdfpaaGreat
namespace Go.Ab
open Go
noncomputable def fcC {β:Type}(v:PV)(c:PV→β):β :=
 match v with
 | .imm n x cs=>fcN n fun n=>fcB x fun x=>fcL cs fun cs=>c (.imm n x cs)
 | v=>fcV v c
noncomputable def ab6 {β:Type}(l:List PV):(List PV→β)→β :=
 List.rec (fun c=>c []) (fun a _ ih c=>fcC a fun a=>ih fun l=>c (a::l)) l
noncomputable def fcT {β:Type}(v:PV)(c:PV→β):β :=
 match v with
 | .agg cs=>ab6 cs fun cs=>c (.agg cs)
 | v=>fcC v c
noncomputable def ab3 {β:Type}(l:List PV):(List PV→β)→β :=
 List.rec (fun c=>c []) (fun a _ ih c=>fcT a fun a=>ih fun l=>c (a::l)) l
theorem SS {β:Type}(v:PV)(c:PV→β):fcC v c=c v:=by
 unfold fcC
 split
 ·rw[rb,SU,ke]
 ·exact G6 v c
theorem Jo {β:Type} : ∀ (l:List PV) (c:List PV→β),ab6 l c=c l
 | [],_=>rfl
 | a::l,c=>by
  show fcC a (fun a=>ab6 l fun l=>c (a::l))=_
  rw[SS,Jo l]
theorem ab2 {β:Type}(v:PV)(c:PV→β):fcT v c=c v:=by
 unfold fcT
 split
 ·rw[Jo]
 ·exact SS v c
theorem Jn {β:Type} : ∀ (l:List PV) (c:List PV→β),ab3 l c=c l
 | [],_=>rfl
 | a::l,c=>by
  show fcT a (fun a=>ab3 l fun l=>c (a::l))=_
  rw[ab2,Jn l]
def wU:PV→PV
 | .sc v=>match v with
  | .slice none 0 0=>.imm 0 false []
  | v=>.sc v
 | .imm n _ cs=>.imm n false cs
 | v=>v
def mO:PV→PV
 | .agg cs=>.agg (cs.map wU)
 | v=>wU v
theorem zE (p:PV)(h:p.ct=true):Wk p (wU p):=by
 unfold wU
 split
 ·split
  ·exact Wk.nil false
  ·exact Wk.refl h
 ·exact Wk.imm _ _ _
 ·exact Wk.refl h
theorem Ic:∀ (cs:List PV),bK cs=true→WkL cs (cs.map wU)
 | [],_=>trivial
 | c::cs,h=>by
  simp only[bK,Bool.and_eq_true] at h
  exact⟨zE c h.1,Ic cs h.2⟩
theorem zD (p:PV)(h:p.ct=true):Wk p (mO p):=by
 unfold mO
 split
 ·exact Wk.agg (Ic _ (by simpa [PV.ct] using h))
 ·exact zE p h
theorem sF:∀ (cs:List PV),bK cs=true→bK (cs.map mO)=true
 | [],_=>rfl
 | c::cs,h=>by
  simp only[bK,Bool.and_eq_true] at h
  simp only[List.map_cons,bK,Bool.and_eq_true]
  exact⟨(zD c h.1).1,sF cs h.2⟩
theorem Spec.mO {P:Program}{g:FuncId}{f:List PV→Option (List PV)}(h:Spec P g f):Spec P g fun a=>f (a.map Ab.mO):=by
 intro args rs hf hi
 obtain⟨h1,h2⟩:=h (args.map Ab.mO) rs hf (sF args hi)
 refine⟨h1,fun w M vs hM hvs=>h2 w M vs hM ⟨by rw[List.length_map];exact hvs.1,fun k c v e1 e2 => ?_⟩⟩
 rw[List.getElem?_map] at e1
 obtain⟨c',h5,rfl⟩:=Option.map_eq_some_iff.1 e1
 exact (zD c' (dU hi h5)).2 w M v (hvs.2 k c' v h5 e2)
abbrev OT:=Tr (List PV→Option (List PV))
noncomputable def fcO (o:Option (List PV)):Option (List PV):=match o with
 | some rs=>ab3 rs fun rs=>some rs
 | none=>none
theorem ab4 (o:Option (List PV)):fcO o=o:=by
 cases o with
 | none=>rfl
 | some rs=>exact Jn rs _
noncomputable def Rl (t:OT):Nat→List PV→Option (List PV):=fun g a=>match t.get g with
 | some f=>fcO (f (a.map mO))
 | none=>none
theorem Rk {P:Program}{t:OT}(h:t.All fun n f=>Spec P n f)(g:Nat):Spec P g (Rl t g):=by
 unfold Rl
 cases e:t.get g with
 | none=>exact Spec.no P g
 | some f =>
  have h1:=(Tr.pF t h g f e).mO
  simp only[ab4]
  exact h1
def yes:Option (List PV × FT Blk × Nat × List Nat)→Bool
 | some ([.sc (.bool b)],_)=>b
 | _=>false
theorem aac {C:Cfg}{k:Nat}{g:FuncId}{args:List PV}(h:yes (runT C k g args .lf 0)=true):∃ hp w,runK C k g args []=some ([.sc (.bool true)],hp,w):=by
 unfold yes at h
 split at h
 ·rename_i b x e
  subst h
  obtain⟨t',m',w⟩:=x
  obtain⟨hp',h1,h2⟩:=IH C k g args .lf 0 _ _ _ _ e [] (by exact⟨rfl,fun i hi=>by simp at hi⟩)
  exact⟨hp',w,h1⟩
 ·cases h
def Z1:Int→Int→Bool
 | .ofNat a,.ofNat b=>a.beq b
 | .negSucc a,.negSucc b=>a.beq b
 | _,_=>false
theorem Tc:∀ {a b:Int},Z1 a b=true→a=b
 | .ofNat a,.ofNat b,h=>by rw[Nat.eq_of_beq_eq_true h]
 | .negSucc a,.negSucc b,h=>by rw[Nat.eq_of_beq_eq_true h]
 | .ofNat _,.negSucc _,h=>by cases h
 | .negSucc _,.ofNat _,h=>by cases h
def eqB:Bool→Bool→Bool
 | true,true=>true
 | false,false=>true
 | _,_=>false
theorem Td:∀ {a b:Bool},eqB a b=true→a=b
 | true,true,_=>rfl
 | false,false,_=>rfl
 | true,false,h=>by cases h
 | false,true,h=>by cases h
theorem zl:∀ {a b:List UInt8},eqL a b=true→a=b
 | [],[],_=>rfl
 | a::x,b::y,h=>by
  simp only[eqL,Bool.and_eq_true,beq_iff_eq] at h
  rw[zl h.2,UInt8.toNat_inj.1 h.1]
 | [],_::_,h=>by simp[eqL] at h
 | _::_,[],h=>by simp[eqL] at h
def pI (e:PV→PV→Bool):List PV→List PV→Bool
 | [],[]=>true
 | a::x,b::y=>e a b && pI e x y
 | _,_=>false
theorem pH {e:PV→PV→Bool}(h:∀ a b,e a b=true→a=b):∀ {x y:List PV},pI e x y=true→x=y
 | [],[],_=>rfl
 | a::x,b::y,hh=>by
  simp only[pI,Bool.and_eq_true] at hh
  rw[h a b hh.1,pH h hh.2]
 | [],_::_,hh=>by simp[pI] at hh
 | _::_,[],hh=>by simp[pI] at hh
def eqP:Nat→PV→PV→Bool
 | 0,_,_=>false
 | k+1,a,b=>match a,b with
  | .sc (.int i m),.sc (.int j n)=>eqK i j && Z1 m n
  | .sc (.bool m),.sc (.bool n)=>eqB m n
  | .sc (.string s),.sc (.string t)=>eqL (bD s) (bD t)
  | .imm m x cs,.imm n y ds=>m.beq n && (eqB x y && pI (eqP k) cs ds)
  | .agg cs,.agg ds=>pI (eqP k) cs ds
  | _,_=>false
theorem Ha:∀ (k:Nat) (a b:PV),eqP k a b=true→a=b
 | 0,a,b,h=>by cases h
 | k+1,a,b,h=>by
  unfold eqP at h
  split at h
  ·simp only[Bool.and_eq_true] at h
   rw[DG h.1,Tc h.2]
  ·rw[Td h]
  ·rename_i s t
   have:=zl h
   rw[← fo s,← fo t,this]
  ·simp only[Bool.and_eq_true] at h
   rw[Nat.eq_of_beq_eq_true h.1,Td h.2.1,pH (Ha k) h.2.2]
  ·rw[pH (Ha k) h]
  ·cases h
def I5 (args:List PV):List PV→Option (List PV):=fun a=>bif pI (eqP 8) (aJ a) args then some [.sc (.bool true)] else none
theorem Mu {C:Cfg}(hC:qi C){k:Nat}{g:FuncId}{args:List PV}(h:yes (runT C k g args .lf 0)=true):Spec C.P g (I5 args):=by
 obtain⟨hp,w,hr⟩:=aac h
 have h1:Spec C.P g fun a=>bif pI (eqP 8) a args then some [.sc (.bool true)] else .none :=
  Spec.abl hC (fun a ha=>pH (Ha 8) ha) ⟨k,_,_,_,[.sc (.bool true)],[],hr,rfl,Wk.refl rfl,trivial⟩
 exact h1.canon
end Go.Ab
namespace Go.Proofs.YtjdmodeenbdfpaaGreat
open Go Go.Ab
noncomputable def adS:OT:=(.node 146 (o9) (.node 97 (ofF) (.node 56 (me) (.node 49 (iY) (.node 43 (mf) (.node 38 (aaV) .leaf .leaf) .leaf) (.node 55 (uA) .leaf .leaf)) (.node 95 (A1) (.node 94 (yY) (.node 87 (iH) .leaf .leaf) .leaf) (.node 96 (rl) .leaf .leaf))) (.node 108 (rrF) (.node 105 (GJ) (.node 104 (pt) (.node 101 (jc) .leaf .leaf) .leaf) (.node 106 (jO) .leaf .leaf)) (.node 142 (pD) (.node 139 (tl) (.node 129 (PC) .leaf .leaf) .leaf) (.node 145 (lF) .leaf .leaf)))) (.node 165 (xK) (.node 153 (mJ) (.node 151 (M4) (.node 150 (xt) (.node 149 (td) .leaf .leaf) .leaf) (.node 152 (fH) .leaf .leaf)) (.node 161 (qX) (.node 160 (yI) (.node 154 (uJ) .leaf .leaf) .leaf) (.node 164 (um) .leaf .leaf))) (.node 170 (iE) (.node 168 (J2) (.node 167 (jb) (.node 166 (jz) .leaf .leaf) .leaf) (.node 169 (mJ) .leaf .leaf)) (.node 184 (iE) (.node 183 (pC) (.node 181 (kX) .leaf .leaf) .leaf) (.node 191 (ibF) .leaf .leaf)))))
theorem WZ:adS.All fun n f=>Ab.Spec base.P n f:=⟨qo,⟨nk,⟨ye,⟨k9,⟨od,⟨Pq,trivial,trivial⟩,trivial⟩,⟨ya,trivial,trivial⟩⟩,⟨wK,⟨yV,⟨qG,trivial,trivial⟩,trivial⟩,⟨pQ,trivial,trivial⟩⟩⟩,⟨Af,⟨vM,⟨qU,⟨kz,trivial,trivial⟩,trivial⟩,⟨qA,trivial,trivial⟩⟩,⟨sM,⟨pZ,⟨Ld,trivial,trivial⟩,trivial⟩,⟨sS,trivial,trivial⟩⟩⟩⟩,⟨xI,⟨zy,⟨DJ,⟨wg,⟨pA,trivial,trivial⟩,trivial⟩,⟨jL,trivial,trivial⟩⟩,⟨vN,⟨yG,⟨yf,trivial,trivial⟩,trivial⟩,⟨uj,trivial,trivial⟩⟩⟩,⟨DQ,⟨Bw,⟨jt,⟨om,trivial,trivial⟩,trivial⟩,⟨vW,trivial,trivial⟩⟩,⟨y5,⟨sH,⟨n9,trivial,trivial⟩,trivial⟩,⟨Jd,trivial,trivial⟩⟩⟩⟩⟩
noncomputable def CE:Cfg:=base.cfg (Rl adS)
theorem afg:qi CE:=Uq.cfg (Rk WZ)
end Go.Proofs.YtjdmodeenbdfpaaGreat
