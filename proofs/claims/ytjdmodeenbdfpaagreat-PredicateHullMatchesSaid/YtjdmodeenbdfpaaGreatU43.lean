/- Contracts of the two hulls, of the program and of the reference, part 43; each lemma states its conditions. -/
import Derived.Test.YtjdmodeenbdfpaaGreatU42
set_option linter.unusedSimpArgs false
set_option linter.unusedVariables false
noncomputable section
namespace Go.Proofs.YtjdmodeenbdfpaaGreat
open Go Go.Ab List Tryz
attribute [local simp] FzZ aC aF aG aH aO aa ab ae af ag ah aj an aq ar au aw az ba bf bg blk iv mU seq1
variable(L:Lst)(run:av)(k:Nat)(fr:Ψ)(hp:Θ)(wr:Ω)
theorem PT:base.F.get 171=some f171:=by kernel_rfl
theorem Y8:base.shared 171=true:=by kernel_rfl
theorem Cd (x:Bool):El 2 (eC x) where
 len:=fun _=>rfl
 okc:=fun _=>rfl
 idf:=fun _=>rfl
 sn:=fun _ _ _=>rfl
def Hx (hp hp':Θ)(id:Nat):Prop:=hp'.length=hp.length∧∀ i,i≠id→aX hp' i=aX hp i
theorem Hx.refl(id:Nat):Hx hp hp id:=⟨rfl,fun _ _=>rfl⟩
theorem Hx.trans {a b c:Θ}{id:Nat}(h:Hx a b id)(h':Hx b c id):Hx a c id:=⟨h'.1.trans h.1,fun i hi=>(h'.2 i hi).trans (h.2 i hi)⟩
theorem Hx.set {hp:Θ}{id:Nat}{b0:Blk}(h:aX hp id=some b0)(b:Blk):Hx hp (cF hp id b) id:=⟨bQ ..,fun i hi=>by rw[cN h,if_neg hi]⟩
theorem sE {hp:Θ}{id:Nat}{b0:Blk}(h:aX hp id=some b0)(b:Blk):aX (cF hp id b) id=some b:=by rw[cN h,if_pos rfl]
def cells (E:List VN)(rest:Ψ):Ψ:=E.flatMap (eC true)++rest
theorem ki (E:List VN)(rest:Ψ)(j:Nat)(hj:j<E.length):bF (bz (cells E rest) (j*2)) 2=some (eC true E[j]):=by
 unfold cells
 have h1:=(Cd true).length E
 have h2:bz (E.flatMap (eC true)++rest) (j*2)=bz (E.flatMap (eC true)) (j*2)++rest:=by
  rw[cD,cD,drop_append_of_le_length (by omega)]
 rw[h2,mG (Cd true) E j hj,append_assoc,dk (by simp[(Cd true).len])]
 simp[(Cd true).len]
theorem Iq {rest:Ψ} : ∀ {l:Ψ} {n:Nat} {v r:Ψ},b9 l n v=some r→b9 (l++rest) n v=some (r++rest)
 | l,0,[],r,h=>by
  have:r=l:=by cases l <;> simpa [b9] using h.symm
  subst this
  cases h:(r++rest) <;> rfl
 | [],0,_::_,r,h=>by cases h
 | a::l,0,v::vs,r,h=>by
  rw[b9] at h
  cases h1:b9 l 0 vs with
  | none=>rw[h1] at h;cases h
  | some q =>
   rw[h1] at h
   obtain rfl:v::q=r:=by simpa using h
   rw[cons_append,b9,Iq h1];rfl
 | [],n+1,_,r,h=>by cases h
 | a::l,n+1,vs,r,h=>by
  rw[b9] at h
  cases h1:b9 l n vs with
  | none=>rw[h1] at h;cases h
  | some q =>
   rw[h1] at h
   obtain rfl:a::q=r:=by simpa using h
   rw[cons_append,b9,Iq h1];rfl
theorem FV (E:List VN)(rest:Ψ)(j:Nat)(y:VN)(hj:j<E.length):b9 (cells E rest) (j*2) (eC true y)=some (cells (E.set j y) rest) :=
 Iq (afg (Cd true) E j y hj)
theorem rm (id n j:Nat)(x:Bool)(hj:j<n):bc TT 100 (.own id 2 0 n x) (.sc (.int .i64 (j:Int)))=some (.ptr id (j*2)):=by
 simp only[bc,ko,bm,mU,hj,and_self,if_true,Nat.zero_add]
def rj:Code:=f171.body.getD .skip
def kq:Code:=(az rj).getD .skip
def mX:Code:=(az kq).getD .skip
def JsF (fr:Ψ)(id n:Nat)(x:Bool)(j:Nat):Prop:=fr.length=53∧nth fr 0 = .own id 2 0 n x∧nth fr 1 = .sc (.int .i64 0)∧nth fr 3 = .sc (.func (.func 124) ⟨[]⟩ ⟨[]⟩)∧nth fr 9=iv j
theorem af0(id n:Nat)(x:Bool)(h:JsF fr id n x 0) :
  ∃ fr' wr',ae (CC L) run k mX ⟨fr,hp,wr⟩=some (.exit 2,⟨fr',hp,wr'⟩):=by
 obtain⟨h0,h00,h1,h3,h9⟩:=h
 simp only[iv] at h9
 simp[mX,kq,rj,f171,h0,h1,h9,undef,number,FP.free]
def jsS:Code:=blk (seq1 (aO mX))
theorem aiN:((Region.before (iE jsS))[15]?.getD 0).testBit 9=true:=by kernel_rfl
theorem aiM:((Region.before (iE jsS))[15]?.getD 0).testBit 13=true:=by kernel_rfl
theorem aiL:((Region.before (iE jsS))[17]?.getD 0).testBit 9=true:=by kernel_rfl
theorem aiK:((Region.before (iE jsS))[17]?.getD 0).testBit 13=true:=by kernel_rfl
theorem aiJ:((Region.before (iE jsS))[17]?.getD 0).testBit 15=true:=by kernel_rfl
theorem ab6(id n:Nat)(x:Bool)(j i:Nat)(E:List VN)(rest:Ψ)(hji:j=i+1)(hj:j<n)(hn:E.length=n)(h9':n<1000)(h:JsF fr id n x j)(hb:aX hp id=some ⟨.live,cells E rest⟩) :
  ∃ fr' hp' wr',ae (CC L) run k jsS ⟨fr,hp,wr⟩=some (.normal,⟨fr',hp',wr'⟩)∧Hx hp hp' id∧aX hp' id=some ⟨.live,cells ((E.set j (E[i]'(by omega))).set i (E[j]'(by omega))) rest⟩:=by
 obtain⟨h0,h00,h1,h3,h9⟩:=h
 have q1:=ki E rest j (by omega)
 have q2:=ki E rest i (by omega)
 have o1:=FV E rest j (E[i]'(by omega)) (by omega)
 have o2:=FV (E.set j (E[i]'(by omega))) rest i (E[j]'(by omega)) (by simp;omega)
 have l1:(eC true (E[i]'(by omega))).length=2:=rfl
 have l2:(eC true (E[j]'(by omega))).length=2:=rfl
 have k1:bj (eC true (E[i]'(by omega)))=true:=rfl
 have k2:bj (eC true (E[j]'(by omega)))=true:=rfl
 have x1:=rm id n j x hj
 have x2:=rm id n i x (by omega)
 have w1:bB .i64 ((j:Int) - 1)=(i:Int):=by
  simpa using jm .i64 j 1 i (by omega) (hiI (by omega))
 have n1:=sE hb ⟨.live,cells (E.set j (E[i]'(by omega))) rest⟩
 have H1:=Hx.set hb ⟨.live,cells (E.set j (E[i]'(by omega))) rest⟩
 obtain⟨hp1,e1⟩:∃ h,cF hp id ⟨.live,cells (E.set j (E[i]'(by omega))) rest⟩=h:=⟨_,rfl⟩
 rw[e1] at n1 H1
 have n2:=sE n1 ⟨.live,cells ((E.set j (E[i]'(by omega))).set i (E[j]'(by omega))) rest⟩
 have H2:=H1.trans (Hx.set n1 ⟨.live,cells ((E.set j (E[i]'(by omega))).set i (E[j]'(by omega))) rest⟩)
 generalize cells ((E.set j (E[i]'(by omega))).set i (E[j]'(by omega))) rest=cs2 at *
 generalize cells (E.set j (E[i]'(by omega))) rest=cs1 at *
 generalize eC true (E[i]'(by omega))=ci at *
 generalize eC true (E[j]'(by omega))=cj at *
 simp only[iv] at h9
 have hb1:=aiN
 have hb2:=aiM
 have hb3:=aiL
 have hb4:=aiK
 have hb5:=aiJ
 simp[-Nat.testBit_zero,jsS,mX,kq,rj,f171,iE] at hb1 hb2 hb3 hb4 hb5
 simp[-Nat.testBit_zero,jsS,mX,kq,rj,f171,partOf,and_assoc,bp,hb1,hb2,hb3,hb4,hb5,h0,h00,h9,x1,x2,w1,hb,q1,q2,o1,o2,l1,l2,k1,k2,e1,n1,n2,H2,y6,aV,undef,number,FP.free,cC,FP.apart]
theorem ab7(id n:Nat)(x:Bool)(j i:Nat)(E:List VN)(rest:Ψ)(c:Int)(hji:j=i+1)(hj:j<n)(hn:E.length=n)(h9':n<1000)(h:JsF fr id n x j)(hb:aX hp id=some ⟨.live,cells E rest⟩)(g:aA L run 124 [.agg (eC true (E[j]'(by omega))),.agg (eC true (E[i]'(by omega)))] (.sc (.int .i64 c))) :
  ∃ fr' wr',ae (CC L) run k (seq1 mX) ⟨fr,hp,wr⟩=some (bif decide (c<0) then .normal else .exit 2,⟨fr',hp,wr'⟩):=by
 obtain⟨h0,h00,h1,h3,h9⟩:=h
 have q1:=ki E rest j (by omega)
 have q2:=ki E rest i (by omega)
 have x1:=rm id n j x hj
 have x2:=rm id n i x (by omega)
 have w1:bB .i64 ((j:Int) - 1)=(i:Int):=by
  simpa using jm .i64 j 1 i (by omega) (hiI (by omega))
 have hj0:0<j:=by omega
 unfold aA at g
 generalize eC true (E[i]'(by omega))=ci at *
 generalize eC true (E[j]'(by omega))=cj at *
 simp only[iv] at h9
 obtain⟨u,hu⟩:∃ u,decide (c<0)=u:=⟨_,rfl⟩
 rw[hu]
 cases u <;> simp[mX,kq,rj,f171,aM,partOf,h0,h00,h1,h3,h9,hj0,x1,x2,w1,hb,q1,q2,g,hu,y6,aV,number,FP.free,cC,FP.apart]
theorem af1(j i:Nat)(hji:j=i+1)(h9':j<1000)(h0:fr.length=53)(h9:nth fr 9=iv j) :
  ∃ fr',ae (CC L) run k (aO (aO mX)) ⟨fr,hp,wr⟩=some (.normal,⟨fr',hp,wr⟩)∧nth fr' 9=iv i:=by
 have w1:bB .i64 ((j:Int) - 1)=(i:Int):=by
  simpa using jm .i64 j 1 i (by omega) (hiI (by omega))
 simp only[iv] at h9
 simp[mX,kq,rj,f171,h0,h9,w1]
theorem adR:mX = .seq (seq1 mX) (.seq (.block 3 jsS) (aO (aO mX))):=rfl
theorem aeq {α:Type}(A:List α)(a x:α)(T:List α):((A++a::x::T).set (A.length+1) a).set A.length x=A++x::a::T:=by
 simp[]
theorem yv {L:Lst}{k:Nat}{g:FuncId}{args:Ψ}{hp:Θ}{fn:Func}{c:Code}{st:St}{rs:Ψ}(hF:base.F.get g=some fn)(hb:fn.body=some c)(hx:ae (CC L) (runK (CC L) k) k c ⟨entry fn.ntmps args,hp,[]⟩=some (.normal,st))(hr:aY TT st.fr st.hp fn.results.toList=some rs):runK (CC L) (k+1) g args hp=some (rs,st.hp,st.wr):=by
 have h1:(CC L).F g=some fn:=hF
 simp only[runK,adC,rV,h1,hb,hx]
 rw[bf,hr]
structure Bef (L:Lst) (run:av) (ok:VN→Prop) (bI:VN→VN→Int):Prop where
 g:∀ a b,ok a→ok b→aA L run 124 [.agg (eC true a),.agg (eC true b)] (.sc (.int .i64 (bI a b)))
 lt:∀ a b,bI a b<0 ↔ lxn a b
theorem Ln {L:Lst}{run:av}{k:Nat}{ok:VN→Prop}{bI:VN→VN→Int}(hB:Bef L run ok bI){id n:Nat}{x:Bool}{rest:Ψ}(h9:n<1000)(x0:VN)(R:List VN):∀ (j:Nat) (A B:List VN) (fr:Ψ) (hp:Θ) (wr:Ω),A.length=j→JsF fr id n x j→(A++x0::(B++R)).length=n→aX hp id=some ⟨.live,cells (A++x0::(B++R)) rest⟩→(A++B).Pairwise leN→(∀ b ∈ B,leN x0 b)→(∀ z ∈ A++x0::(B++R),ok z) →
  ∃ fr' hp' wr' D,cg (ae (CC L) run k mX) (j+1) ⟨fr,hp,wr⟩=some (.exit 2,⟨fr',hp',wr'⟩)∧Hx hp hp' id∧aX hp' id=some ⟨.live,cells (D++R) rest⟩∧D.Perm (A++x0::B)∧D.Pairwise leN∧dX (df mX) fr fr'
 | 0,A,B,fr,hp,wr,hA,hF,hn,hb,hp1,hp2,hok=>by
  obtain rfl:A=[]:=length_eq_zero_iff.1 hA
  obtain⟨fr',wr',q1⟩:=af0 L run k fr hp wr id n x hF
  exact⟨fr',hp,wr',x0::B,br q1,Hx.refl _ _,hb,.refl _,pairwise_cons.2 ⟨hp2,hp1⟩,aP _ q1⟩
 | j+1,A,B,fr,hp,wr,hA,hF,hn,hb,hp1,hp2,hok=>by
  obtain⟨A',a,rfl⟩:∃ A' a,A=A'++[a]:=⟨A.dropLast,A.getLast (fun e=>by rw[e] at hA;simp at hA),(dropLast_concat_getLast _).symm⟩
  have hA':A'.length=j:=by simpa using hA
  subst hA'
  have eE:A'++[a]++x0::(B++R)=A'++a::x0::(B++R):=by simp
  rw[eE] at hn hb hok
  have hj:A'.length+1<n:=by rw[← hn];simp only[length_append,length_cons];omega
  have e1:(A'++a::x0::(B++R))[A'.length+1]'(by rw[hn];exact hj)=x0:=by
   rw[getElem_append_right (by omega)];simp
  have e2:(A'++a::x0::(B++R))[A'.length]'(by rw[hn];omega)=a:=by
   rw[getElem_append_right (by omega)];simp
  have g:=hB.g x0 a (hok _ (by simp)) (hok _ (by simp))
  obtain⟨fr1,wr1,c1⟩:=ab7 L run k fr hp wr id n x (A'.length+1) A'.length _ rest (bI x0 a) rfl hj hn h9 hF hb (by rw[e1,e2];exact g)
  have K1:=aP _ c1
  have hF1:JsF fr1 id n x (A'.length+1):=⟨K1.len hF.1,K1.at hF.2.1,K1.at hF.2.2.1,K1.at hF.2.2.2.1,K1.at hF.2.2.2.2⟩
  by_cases hlt:bI x0 a<0
  ·rw[decide_eq_true hlt,cond_true] at c1
   obtain⟨fr2,hp2',wr2,d1,d2,d3⟩:=ab6 L run k fr1 hp wr1 id n x (A'.length+1) A'.length _ rest rfl hj hn h9 hF1 hb
   rw[e1,e2,aeq] at d3
   have K2:=aP _ d1
   obtain⟨fr3,f1,f2⟩:=af1 L run k fr2 hp2' wr2 (A'.length+1) A'.length rfl (by omega) (K2.len hF1.1) (K2.at hF1.2.2.2.2)
   have K3:=aP _ f1
   have hr:ae (CC L) run k mX ⟨fr,hp,wr⟩=some (.normal,⟨fr3,hp2',wr2⟩):=by
    have d1':ae (CC L) run k (.block 3 jsS) ⟨fr1,hp,wr1⟩=some (.normal,⟨fr2,hp2',wr2⟩):=by simp only[ae,d1]
    rw[adR,ao c1,ao d1',f1]
   have K:=aP _ hr
   have hlx:=(hB.lt x0 a).1 hlt
   have ha:∀ b ∈ B,leN a b:=fun b hb'=>(pairwise_append.1 hp1).2.2 a (by simp) b hb'
   obtain⟨fr',hp',wr',D,r1,r2,r3,r4,r5,r6⟩:=Ln hB h9 x0 R A'.length A' (a::B) fr3 hp2' wr2 rfl
    ⟨K.len hF.1,K.at hF.2.1,K.at hF.2.2.1,K.at hF.2.2.2.1,f2⟩
    (by rw[← hn];simp) (by rw[cons_append];exact d3) (by simpa using hp1)
    (fun b hb'=>by
     rcases mem_cons.1 hb' with rfl | hb'
     ·exact Vw hlx
     ·exact Ay (Vw hlx) (ha b hb'))
    (fun z hz=>hok z (by simp at hz ⊢;grind))
   refine⟨fr',hp',wr',D,by rw[bU hr];exact r1,d2.trans r2,r3,r4.trans ?_,r5,K.trans r6⟩
   rw[append_assoc]
   exact List.Perm.append_left _ (List.Perm.swap ..)
  ·rw[decide_eq_false hlt,cond_false] at c1
   have hr:ae (CC L) run k mX ⟨fr,hp,wr⟩=some (.exit 2,⟨fr1,hp,wr1⟩):=by
    rw[adR,ae,c1]
   have hle:leN a x0:=fun h=>hlt ((hB.lt x0 a).2 h)
   refine⟨fr1,hp,wr1,A'++[a]++x0::B,br hr,Hx.refl _ _,by rw[hb];simp,.refl _,?_,aP _ hr⟩
   obtain⟨p1,p2,p3⟩:=pairwise_append.1 hp1
   refine pairwise_append.2 ⟨p1,pairwise_cons.2 ⟨hp2,p2⟩,fun y hy z hz => ?_⟩
   have hya:leN y x0:=by
    rcases mem_append.1 hy with h | h
    ·exact Ay ((pairwise_append.1 p1).2.2 y h a (by simp)) hle
    ·obtain rfl:y=a:=by simpa using h
     exact hle
   rcases mem_cons.1 hz with rfl | hz
   ·exact hya
   ·exact p3 y hy z hz
def ab8:Code:=seq1 (blk (seq1 (aO kq)))
theorem IV:kq = .seq (seq1 kq) (.seq (.block 1 (.seq ab8 (.block 2 (.loop mX)))) (aO (aO kq))):=rfl
theorem VD(i n:Nat)(h0:fr.length=53)(h2:nth fr 2=iv n)(h8:nth fr 8=iv i) :
  ∃ fr',ae (CC L) run k (seq1 kq) ⟨fr,hp,wr⟩=some (bif decide (i<n) then .normal else .exit 0,⟨fr',hp,wr⟩):=by
 simp only[iv] at h2 h8
 obtain⟨u,hu⟩:∃ u,decide (i<n)=u:=⟨_,rfl⟩
 rw[hu]
 have hu':decide ((i:Int)<(n:Int))=u:=by rw[← hu];exact decide_eq_decide.2 Int.ofNat_lt
 cases u <;> simp only[decide_eq_true_eq,decide_eq_false_iff_not] at hu hu' <;> simp[kq,rj,f171,h0,h2,h8,hu']
theorem aiO(i:Nat)(h0:fr.length=53)(h8:nth fr 8=iv i) :
  ∃ fr',ae (CC L) run k ab8 ⟨fr,hp,wr⟩=some (.normal,⟨fr',hp,wr⟩)∧nth fr' 9=iv i:=by
 simp only[iv] at h8
 simp[ab8,kq,rj,f171,h0,h8]
theorem aiP(i:Nat)(h9:i<1000)(h0:fr.length=53)(h8:nth fr 8=iv i) :
  ∃ fr',ae (CC L) run k (aO (aO kq)) ⟨fr,hp,wr⟩=some (.normal,⟨fr',hp,wr⟩)∧nth fr' 8=iv (i+1):=by
 have hw:=bE i (by omega)
 simp only[iv] at h8
 simp[kq,rj,f171,h0,h8,hw]
theorem afZ (L:Lst)(run:av)(k:Nat)(p f:PV)(n:Nat)(hp:Θ):∃ fr,ae (CC L) run k (seq1 rj) ⟨entry 53 [p,.sc (.int .i64 0),iv n,f],hp,[]⟩=some (.normal,⟨fr,hp,[]⟩)∧fr.length=53∧nth fr 0=p∧nth fr 1 = .sc (.int .i64 0)∧nth fr 2=iv n∧nth fr 3=f∧nth fr 8=iv 1:=by
 obtain⟨e1,e2,e3,e4,e5⟩:=agk 49 p (.sc (.int .i64 0)) (iv n) f
 generalize entry 53 [p,.sc (.int .i64 0),iv n,f]=fr0 at *
 have hw:=bE 0 (by omega)
 simp at hw
 generalize iv n=nn at *
 simp[rj,f171,e1,e2,e3,e4,e5,hw]
theorem af2:rj = .seq (seq1 rj) (.block 0 (.loop kq)):=rfl
theorem afY {L:Lst}{k:Nat}{ok:VN→Prop}{bI:VN→VN→Int}(hB:Bef L (runK (CC L) k) ok bI){id:Nat}{x:Bool}{rest:Ψ}(E:List VN)(h9:E.length<1000)(hk:E.length<k)(p:PV)(hp:Θ)(hE:E=[]∨p = .own id 2 0 E.length x∧aX hp id=some ⟨.live,cells E rest⟩)(hok:∀ z ∈ E,ok z) :
  ∃ hp' wr D,runK (CC L) (k+1) 171 [p,.sc (.int .i64 0),iv E.length,.sc (.func (.func 124) ⟨[]⟩ ⟨[]⟩)] hp=some ([],hp',wr)∧Hx hp hp' id∧(E=[]∨aX hp' id=some ⟨.live,cells D rest⟩)∧D.Perm E∧D.Pairwise leN:=by
 obtain⟨fr,a1,a2,a3,a4,a5,a6,a7⟩:=afZ L (runK (CC L) k) k p (.sc (.func (.func 124) ⟨[]⟩ ⟨[]⟩)) E.length hp
 have fin:∀ {st:St},ae (CC L) (runK (CC L) k) k (.block 0 (.loop kq)) ⟨fr,hp,[]⟩=some (.normal,st)→runK (CC L) (k+1) 171 [p,.sc (.int .i64 0),iv E.length,.sc (.func (.func 124) ⟨[]⟩ ⟨[]⟩)] hp=some ([],st.hp,st.wr):=fun {st} h=>by
  have hx:ae (CC L) (runK (CC L) k) k rj ⟨entry 53 [p,.sc (.int .i64 0),iv E.length,.sc (.func (.func 124) ⟨[]⟩ ⟨[]⟩)],hp,[]⟩=some (.normal,st):=by
   rw[af2,ao a1,h]
  exact yv PT rfl hx rfl
 cases E with
 | nil =>
  obtain⟨fr1,b1⟩:=VD L (runK (CC L) k) k fr hp [] 1 0 a2 a5 a7
  have b1:ae (CC L) (runK (CC L) k) k (seq1 kq) ⟨fr,hp,[]⟩=some (.exit 0,⟨fr1,hp,[]⟩):=b1
  have b2:ae (CC L) (runK (CC L) k) k kq ⟨fr,hp,[]⟩=some (.exit 0,⟨fr1,hp,[]⟩):=by rw[IV,ae,b1]
  have b3:=bD (bG (br (n:=0) b2) (show 0+1≤k by simp at hk;omega))
  exact⟨hp,[],[],fin b3,Hx.refl _ _,.inl rfl,.refl _,.nil⟩
 | cons e E' =>
  obtain⟨hpe,hb⟩:p = .own id 2 0 (e::E').length x∧aX hp id=some ⟨.live,cells (e::E') rest⟩:=by
   rcases hE with h | h
   ·cases h
   ·exact h
  generalize hn:(e::E').length=n at *
  obtain⟨st,b1,D,b2,b3,b4,b5⟩:=lK (C:=CC L) (run:=runK (CC L) k) (k:=k) (e:=0) (b:=kq) (n:=n - 1) (st:=⟨fr,hp,[]⟩)
   (Inv:=fun t st=>dX (df kq) fr st.fr∧nth st.fr 8=iv (t+1)∧Hx hp st.hp id∧∃ D R,D.length=t+1∧aX st.hp id=some ⟨.live,cells (D++R) rest⟩∧(D++R).Perm (e::E')∧D.Pairwise leN)
   (Q:=fun st=>∃ D,Hx hp st.hp id∧aX st.hp id=some ⟨.live,cells D rest⟩∧D.Perm (e::E')∧D.Pairwise leN)
   (by omega)
   (fun t st ht ⟨iK,i8,iH,D,R,iD,ib,iP,iS⟩=>by
    obtain⟨fr0,hp0,wr0⟩:=st
    dsimp only at iK i8 iH ib
    have i0:=iK.len a2
    have hlen:(D++R).length=n:=by rw[iP.length_eq];exact hn
    cases R with
    | nil=>simp at hlen;omega
    | cons y R =>
     obtain⟨fr1,c1⟩:=VD L (runK (CC L) k) k fr0 hp0 wr0 (t+1) n i0 (iK.at a5) i8
     rw[decide_eq_true (by omega),cond_true] at c1
     have K1:=aP _ c1
     obtain⟨fr2,d1,d2⟩:=aiO L (runK (CC L) k) k fr1 hp0 wr0 (t+1) (K1.len i0) (K1.at i8)
     have K2:=aP _ d1
     obtain⟨fr3,hp3,wr3,D',r1,r2,r3,r4,r5,r6⟩:=Ln hB h9 y R (t+1) D [] fr2 hp0 wr0 iD
      ⟨K2.len (K1.len i0),by rw[← hpe];exact K2.at (K1.at (iK.at a3)),K2.at (K1.at (iK.at a4)),K2.at (K1.at (iK.at a6)),d2⟩ (by simpa using hlen) ib (by simpa using iS) (fun b hb=>by cases hb) (fun z hz=>hok z (iP.mem_iff.1 (by simpa using hz)))
     have l1:=bD (bG r1 (show t+1+1≤k by omega))
     have l2:ae (CC L) (runK (CC L) k) k (.block 1 (.seq ab8 (.block 2 (.loop mX)))) ⟨fr1,hp0,wr0⟩=some (.normal,⟨fr3,hp3,wr3⟩):=by
      rw[ae,ao d1,l1]
     have K3:=aP _ l2
     obtain⟨fr4,m1,m2⟩:=aiP L (runK (CC L) k) k fr3 hp3 wr3 (t+1) (by omega) (K3.len (K1.len i0)) (K3.at (K1.at i8))
     have hr:ae (CC L) (runK (CC L) k) k kq ⟨fr0,hp0,wr0⟩=some (.normal,⟨fr4,hp3,wr3⟩):=by
      rw[IV,ao c1,ao l2,m1]
     refine⟨_,hr,iK.trans (aP _ hr),m2,iH.trans r2,D',R,by rw[r4.length_eq];simp[iD],r3,?_,r5⟩
     refine List.Perm.trans (List.Perm.append_right R r4) ?_
     simpa using iP)
   (fun st ⟨iK,i8,iH,D,R,iD,ib,iP,iS⟩=>by
    obtain⟨fr0,hp0,wr0⟩:=st
    dsimp only at iK i8 iH ib
    have hlen:(D++R).length=n:=by rw[iP.length_eq];exact hn
    have hn1:1≤n:=by rw[← hn];simp
    have hR:R=[]:=length_eq_zero_iff.1 (by simp at hlen;omega)
    subst hR
    rw[append_nil] at ib iP
    obtain⟨fr1,c1⟩:=VD L (runK (CC L) k) k fr0 hp0 wr0 (n - 1+1) n (iK.len a2) (iK.at a5) i8
    rw[decide_eq_false (by omega),cond_false] at c1
    exact⟨⟨fr1,hp0,wr0⟩,by rw[IV,ae,c1],D,iH,ib,iP,iS⟩)
   ⟨dX.refl _ _,a7,Hx.refl _ _,[e],E',rfl,hb,.refl _,pairwise_singleton _ _⟩
  exact⟨st.hp,st.wr,D,fin b1,b2,.inr b3,b4,b5⟩
theorem Zb:base.shared 159=false:=by kernel_rfl
def mL (n:Nat):Nat:=[0,1,2,2,3,3,3,3,4,4,4,4,4].getD n 0
def A7:Ψ→Option Ψ:=ctr (fun n:Nat=>[.sc (.int .u64 n)]) (fun n=>n≤12) fun n=>[iv (mL n)]
theorem A6:Ab.Spec base.P 159 A7:=Ab.Spec.bL (C:=CC []) (cP (L:=[]) trivial) fun args rs h=>by
 obtain⟨n,hn,rfl,rfl⟩:=cX h
 have key:∀ n,n≤12→runK (CC []) 10 159 [.sc (.int .u64 (n:Nat))] []=some ([iv (mL n)],[],[]):=fun n hn=>by
  match n,hn with
  | 0,_=>exact (show runK (CC []) 10 159 [.sc (.int .u64 ((0:Nat):Int))] []=some ([iv (mL 0)],[],[]) by kernel_rfl)
  | 1,_=>exact (show runK (CC []) 10 159 [.sc (.int .u64 ((1:Nat):Int))] []=some ([iv (mL 1)],[],[]) by kernel_rfl)
  | 2,_=>exact (show runK (CC []) 10 159 [.sc (.int .u64 ((2:Nat):Int))] []=some ([iv (mL 2)],[],[]) by kernel_rfl)
  | 3,_=>exact (show runK (CC []) 10 159 [.sc (.int .u64 ((3:Nat):Int))] []=some ([iv (mL 3)],[],[]) by kernel_rfl)
  | 4,_=>exact (show runK (CC []) 10 159 [.sc (.int .u64 ((4:Nat):Int))] []=some ([iv (mL 4)],[],[]) by kernel_rfl)
  | 5,_=>exact (show runK (CC []) 10 159 [.sc (.int .u64 ((5:Nat):Int))] []=some ([iv (mL 5)],[],[]) by kernel_rfl)
  | 6,_=>exact (show runK (CC []) 10 159 [.sc (.int .u64 ((6:Nat):Int))] []=some ([iv (mL 6)],[],[]) by kernel_rfl)
  | 7,_=>exact (show runK (CC []) 10 159 [.sc (.int .u64 ((7:Nat):Int))] []=some ([iv (mL 7)],[],[]) by kernel_rfl)
  | 8,_=>exact (show runK (CC []) 10 159 [.sc (.int .u64 ((8:Nat):Int))] []=some ([iv (mL 8)],[],[]) by kernel_rfl)
  | 9,_=>exact (show runK (CC []) 10 159 [.sc (.int .u64 ((9:Nat):Int))] []=some ([iv (mL 9)],[],[]) by kernel_rfl)
  | 10,_=>exact (show runK (CC []) 10 159 [.sc (.int .u64 ((10:Nat):Int))] []=some ([iv (mL 10)],[],[]) by kernel_rfl)
  | 11,_=>exact (show runK (CC []) 10 159 [.sc (.int .u64 ((11:Nat):Int))] []=some ([iv (mL 11)],[],[]) by kernel_rfl)
  | 12,_=>exact (show runK (CC []) 10 159 [.sc (.int .u64 ((12:Nat):Int))] []=some ([iv (mL 12)],[],[]) by kernel_rfl)
  | n+13,h=>omega
 exact⟨10,_,_,_,_,_,key n hn,rfl,Wk.refl rfl,trivial⟩
theorem ahm {L:Lst}(hL:bC L 159=fun a=>A7 (aK a))(run:av)(n:Nat)(hn:n≤12):aA L run 159 [.sc (.int .u64 n)] (iv (mL n)) :=
 gi Zb (e:=fun n:Nat=>[.sc (.int .u64 n)]) (f:=fun n=>[iv (mL n)]) hL (fun x y _ _ h=>by
  simp only[List.cons.injEq,PV.sc.injEq,Value.int.injEq,and_true,true_and] at h
  rw[Int.ofNat.inj h]) run n hn (fun _=>rfl) (by simp only[aK,canon])
theorem PS:base.F.get 158=some f158:=by kernel_rfl
theorem Y7:base.shared 158=true:=by kernel_rfl
theorem J0:base.F.get 123=some f123:=by kernel_rfl
theorem RN:base.shared 123=true:=by kernel_rfl
theorem lX {L:Lst}{run:av}{g:Nat}{args rs:Ψ}{hp hp':Θ}{w:Ω}(hs:base.shared g=true)(hr:run g args hp=some (rs,hp',w))(hl:bT rs=true→hp'.length=hp.length)(dr:Bool):∃ fp,bS (CC L) run dr hp g args=some (iL rs,hp',fp):=by
 have hs':(CC L).shared g=true:=hs
 unfold bS
 rw[if_pos hs',hr]
 dsimp only
 cases hi:bT rs with
 | false=>simp only[Bool.false_and,cond_false];exact⟨_,rfl⟩
 | true =>
  cases gW hp' hp.length (lC hp.length w) with
  | false=>simp only[Bool.true_and,cond_false];exact⟨_,rfl⟩
  | true =>
   have:qw hp.length hp'=hp':=by rw[← hl hi];exact su _
   simp only[Bool.true_and,cond_true,this]
   exact⟨_,rfl⟩
abbrev fnB:PV:=.sc (.func (.func 124) ⟨[]⟩ ⟨[]⟩)
def xT:Code:=f158.body.getD .skip
def O2:Code:=(az xT).getD .skip
theorem acn:xT = .seq (seq1 xT) (.seq (seq1 (aO xT)) (.block 0 (.loop O2))):=rfl
def yV:Code:=blk O2
theorem aco:O2 = .block 1 (.seq (seq1 yV) (.seq (seq1 (aO yV)) (aO (aO yV)))):=rfl
theorem acm (L:Lst)(run:av)(k:Nat)(p l f:PV)(n:Nat)(hn:n≤12)(hp hp':Θ)(r:PV)(fp:FP)(hc:bS (CC L) run false hp 171 [p,.sc (.int .i64 0),iv n,f]=some (r,hp',fp)) :
  ∃ fr fr' wr',ae (CC L) run k xT ⟨entry 148 [p,.sc (.int .i64 0),iv n,l,f],hp,[]⟩=ae (CC L) run k (.block 0 (.loop O2)) ⟨fr,hp,[]⟩∧ae (CC L) run k O2 ⟨fr,hp,[]⟩=some (.ret,⟨fr',hp',wr'⟩):=by
 have hl:=fD 148 [p,.sc (.int .i64 0),iv n,l,f] (by simp)
 have e0:nth (entry 148 [p,.sc (.int .i64 0),iv n,l,f]) 0=p:=rfl
 have e1:nth (entry 148 [p,.sc (.int .i64 0),iv n,l,f]) 1 = .sc (.int .i64 0):=rfl
 have e2:nth (entry 148 [p,.sc (.int .i64 0),iv n,l,f]) 2=iv n:=rfl
 have e4:nth (entry 148 [p,.sc (.int .i64 0),iv n,l,f]) 4=f:=rfl
 generalize entry 148 [p,.sc (.int .i64 0),iv n,l,f]=fr0 at *
 obtain⟨fr,a1,a2,a3,a4,a5,a6⟩:∃ fr,ae (CC L) run k (.seq (seq1 xT) (seq1 (aO xT))) ⟨fr0,hp,[]⟩=some (.normal,⟨fr,hp,[]⟩)∧fr.length=148∧nth fr 0=p∧nth fr 1 = .sc (.int .i64 0)∧nth fr 2=iv n∧nth fr 4=f:=by
  simp[xT,f158,hl,e0,e1,e2,e4]
 have hw:bB .i64 (((n:Nat):Int) - 0)=(n:Int):=by
  simpa using jm .i64 n 0 n (by omega) (hiI (by omega))
 simp at hw
 have hle:((n:Int)≤12):=by omega
 obtain⟨fr',wr',b1⟩:∃ fr' wr',ae (CC L) run k (.seq (seq1 yV) (seq1 (aO yV))) ⟨fr,hp,[]⟩=some (.ret,⟨fr',hp',wr'⟩):=by
  simp only[iv] at a5 hc
  simp[yV,O2,xT,f158,aM,a2,a3,a4,a5,a6,hw,hle,hc]
 refine⟨fr,fr',wr',?_,?_⟩
 ·rw[acn]
  rw[ae] at a1 ⊢
  cases h1:ae (CC L) run k (seq1 xT) ⟨fr0,hp,[]⟩ with
  | none=>rw[h1] at a1;cases a1
  | some q =>
   obtain⟨e,st⟩:=q
   rw[h1] at a1
   cases e with
   | normal=>dsimp only at a1 ⊢;rw[ao a1]
   | _=>cases a1
 ·have b2:ae (CC L) run k (.seq (seq1 yV) (.seq (seq1 (aO yV)) (aO (aO yV)))) ⟨fr,hp,[]⟩=some (.ret,⟨fr',hp',wr'⟩):=by
   rw[ae] at b1 ⊢
   cases h1:ae (CC L) run k (seq1 yV) ⟨fr,hp,[]⟩ with
   | none=>rw[h1] at b1;cases b1
   | some q =>
    obtain⟨e,st⟩:=q
    rw[h1] at b1
    cases e with
    | normal=>dsimp only at b1 ⊢;exact bK b1
    | ret=>simp at b1;subst b1;rfl
    | _=>simp at b1
  rw[aco,ae,b2]
theorem ack {L:Lst}{k:Nat}(p l f:PV)(n:Nat)(hn:n≤12)(hk:0<k)(hp hp':Θ)(r:PV)(fp:FP)(hc:bS (CC L) (runK (CC L) k) false hp 171 [p,.sc (.int .i64 0),iv n,f]=some (r,hp',fp)):∃ wr,runK (CC L) (k+1) 158 [p,.sc (.int .i64 0),iv n,l,f] hp=some ([],hp',wr):=by
 obtain⟨fr,fr',wr',a1,a2⟩:=acm L (runK (CC L) k) k p l f n hn hp hp' r fp hc
 have h1:=bG (dD (n:=0) a2) (show 0+1≤k by omega)
 have hx:ae (CC L) (runK (CC L) k) k xT ⟨entry 148 [p,.sc (.int .i64 0),iv n,l,f],hp,[]⟩=some (.ret,⟨fr',hp',wr'⟩):=by
  rw[a1]
  simp only[ae,h1]
 exact⟨_,gw PS rfl hx rfl⟩
theorem uI_:und TT 3=some (.int .i64):=by kernel_rfl
theorem ajO:und TT 114=some (.int .u64):=by kernel_rfl
theorem YU (L:Lst)(run:av)(k:Nat)(p f l:PV)(n:Nat)(hn:n≤12)(hl:dc p=some n)(hp hp':Θ)(r:PV)(fp:FP)(g:aA L run 159 [.sc (.int .u64 n)] l)(hc:bS (CC L) run false hp 158 [p,.sc (.int .i64 0),iv n,l,f]=some (r,hp',fp)) :
  ∃ fr wr,ae (CC L) run k (f123.body.getD .skip) ⟨entry 14 [p,f],hp,[]⟩=some (.normal,⟨fr,hp',wr⟩):=by
 obtain⟨e1,e2,e3⟩:=cb 12 p f
 generalize entry 14 [p,f]=fr0 at *
 unfold aA at g
 simp only[iv] at hc
 have hw:=dp .u64 n (Nat.le_trans hn (by decide))
 have hcv:dF TT hp 3 114 (.sc (.int .i64 (n:Int)))=some (.sc (.int .u64 (n:Int)),[]):=by
  simp only[dF,uI_,ajO,hw];rfl
 simp[f123,aM,bM,e1,e2,e3,hl,ko,g,hc,hcv]
theorem aet {L:Lst}{k:Nat}{ok:VN→Prop}{bI:VN→VN→Int}(hB:Bef L (runK (CC L) k) ok bI)(hbl:bC L 159=fun a=>A7 (aK a)){id:Nat}{x:Bool}{rest:Ψ}(E:List VN)(h9:E.length≤12)(hk:E.length<k)(p:PV)(hp:Θ)(hl:dc p=some E.length)(hE:E=[]∨p = .own id 2 0 E.length x∧aX hp id=some ⟨.live,cells E rest⟩)(hok:∀ z ∈ E,ok z)(dr:Bool) :
  ∃ hp' r fp D,bS (CC L) (runK (CC L) (k+3)) dr hp 123 [p,fnB]=some (r,hp',fp)∧Hx hp hp' id∧(E=[]∨aX hp' id=some ⟨.live,cells D rest⟩)∧D.Perm E∧D.Pairwise leN:=by
 obtain⟨hp',wr,D,a1,a2,a3,a4,a5⟩:=afY hB E (by omega) hk p hp hE hok
 obtain⟨fp,b1⟩:=lX Y8 a1 (fun _=>a2.1) false
 obtain⟨wr2,c1⟩:=ack p (iv (mL E.length)) fnB E.length h9 (by omega) hp hp' _ fp b1
 obtain⟨fp2,d1⟩:=lX Y7 c1 (fun _=>a2.1) false
 obtain⟨fr3,wr3,e1⟩:=YU L (runK (CC L) (k+2)) (k+2) p fnB (iv (mL E.length)) E.length h9 hl hp hp' _ fp2 (ahm hbl _ _ h9) d1
 obtain⟨fp4,f1⟩:=lX RN (yv J0 rfl e1 rfl) (fun _=>a2.1) dr
 exact⟨hp',_,fp4,D,f1,a2,a3,a4,a5⟩
theorem qg:base.F.get 125=some f125:=by kernel_rfl
theorem wo:base.shared 125=true:=by kernel_rfl
abbrev fnE:PV:=.sc (.func (.func 126) ⟨[]⟩ ⟨[]⟩)
def cmC:Code:=f125.body.getD .skip
def cmB:Code:=(az cmC).getD .skip
def cmX:Code:=blk (seq1 (aO cmB))
def cmY:Code:=ik (aO cmX)
def cmI:Code:=(az cmY).getD .skip
def cmW:Code:=blk (seq1 (aO cmI))
theorem Jj:cmB = .seq (seq1 cmB) (.seq (.block 1 (.seq (seq1 cmX) (.cond (.tmp 28) cmY .skip))) (aO (aO cmB))):=rfl
theorem agx:cmY = .seq (seq1 cmY) (.seq (.seq (seq1 (seq1 (aO cmY))) (.block 2 (.loop cmI))) (aO (aO cmY))):=rfl
theorem agy:cmW = .seq (seq1 cmW) (.cond (.tmp 49) (ik (aO cmW)) .skip):=rfl
theorem VG (id off n j:Nat)(x:Bool)(hj:j<n):bc TT 100 (.own id 2 off n x) (.sc (.int .i64 (j:Int)))=some (.ptr id (off+j*2)):=by
 simp only[bc,ko,bm,mU,hj,and_self,if_true]
theorem Rl(id n i:Nat)(x:Bool)(hi:i≤n):dH TT hp 100 (.own id 2 0 n x) (some (iv i)) none none=some (.own id 2 (i*2) (n - i) x):=by
 simp[dH,ko,jg,bnd,fG,bm,hi,gS]
theorem Rm(id n i:Nat)(x:Bool)(hi:i≤n):dH TT hp 100 (.own id 2 0 n x) none (some (iv i)) none=some (.own id 2 0 i (x && i == n)):=by
 simp[dH,ko,jg,bnd,fG,bm,hi,gS]
theorem Z2 (m:Nat)(l:Ψ):(rep m l).length=m*l.length:=by
 induction m with
 | zero=>simp[rep]
 | succ m ih=>rw[rep,length_append,ih,Nat.succ_mul];omega
section
variable (L:Lst) (run:av) (k:Nat) (fr:Ψ) (hp:Θ) (wr:Ω) (id n:Nat) (x:Bool) (E:List VN) (rest:Ψ)
theorem akm (i j:Nat)(hij:i=j+1)(hi:i<n)(hn:E.length=n)(h9:n<1000)(u:Bool)(hb:aX hp id=some ⟨.live,cells E rest⟩)(g:∀ dr hp,bS (CC L) run dr hp 126 [.agg (eC true (E[i]'(by omega))),.agg (eC true (E[j]'(by omega)))]=some (.sc (.bool u),hp,⟨[],[],true,true⟩))(h0:fr.length=66)(h00:nth fr 0 = .own id 2 0 n x)(h1:nth fr 1=fnE)(h5:nth fr 5=iv i) :
  ∃ fr' wr',ae (CC L) run k (seq1 cmX) ⟨fr,hp,wr⟩=some (.normal,⟨fr',hp,wr'⟩)∧nth fr' 28 = .sc (.bool u):=by
 have q1:=ki E rest i (by omega)
 have q2:=ki E rest j (by omega)
 have x1:=rm id n i x hi
 have x2:=rm id n j x (by omega)
 have w1:bB .i64 ((i:Int) - 1)=(j:Int):=by
  simpa using jm .i64 i 1 j (by omega) (hiI (by omega))
 generalize eC true (E[i]'(by omega))=ci at *
 generalize eC true (E[j]'(by omega))=cj at *
 simp only[iv] at h5
 simp[cmX,cmB,cmC,f125,aM,partOf,and_assoc,h0,h00,h1,h5,x1,x2,w1,hb,q1,q2,g,y6,aV,number,FP.free,cC,FP.apart]
theorem akl (i m:Nat)(hi:i≤n)(hm:m=n - i)(h0:fr.length=66)(h00:nth fr 0 = .own id 2 0 n x)(h5:nth fr 5=iv i) :
  ∃ fr',ae (CC L) run k (seq1 cmY) ⟨fr,hp,wr⟩=some (.normal,⟨fr',hp,wr⟩)∧nth fr' 6 = .own id 2 (i*2) m x:=by
 have hs:=Rl hp id n i x hi
 rw[← hm] at hs
 simp only[iv] at h5 hs
 simp[ik,cmY,cmX,cmB,cmC,f125,h0,h00,h5,hs]
theorem akk (h0:fr.length=66) :
  ∃ fr',ae (CC L) run k (seq1 (seq1 (aO cmY))) ⟨fr,hp,wr⟩=some (.normal,⟨fr',hp,wr⟩)∧nth fr' 7=iv 1:=by
 simp[ik,cmY,cmX,cmB,cmC,f125,h0]
theorem ajs (t s i j m:Nat)(u:Bool)(hts:t=s+1)(hti:t=i+j)(hj:j<m)(hj1:1≤j)(hin:t<n)(hn:E.length=n)(h9:n<1000)(hb:aX hp id=some ⟨.live,cells E rest⟩)(g:∀ dr hp,bS (CC L) run dr hp 126 [.agg (eC true (E[t]'(by omega))),.agg (eC true (E[s]'(by omega)))]=some (.sc (.bool u),hp,⟨[],[],true,true⟩))(h0:fr.length=66)(h1:nth fr 1=fnE)(h6:nth fr 6 = .own id 2 (i*2) m x)(h7:nth fr 7=iv j) :
  ∃ fr' wr',ae (CC L) run k (seq1 cmW) ⟨fr,hp,wr⟩=some (.normal,⟨fr',hp,wr'⟩)∧nth fr' 49 = .sc (.bool !u):=by
 have q1:=ki E rest t (by omega)
 have q2:=ki E rest s (by omega)
 obtain⟨j',rfl⟩:∃ j',j=j'+1:=⟨j - 1,by omega⟩
 have x1:=VG id (i*2) m (j'+1) x hj
 have x2:=VG id (i*2) m j' x (by omega)
 rw[show i*2+(j'+1)*2=t*2 by omega] at x1
 rw[show i*2+j'*2=s*2 by omega] at x2
 have w1:bB .i64 (((j'+1:Nat):Int) - 1)=(j':Int):=by
  simpa using jm .i64 (j'+1) 1 j' (by omega) (hiI (by omega))
 generalize eC true (E[t]'(by omega))=ci at *
 generalize eC true (E[s]'(by omega))=cj at *
 simp only[iv] at h7
 generalize ((j'+1:Nat):Int)=J at *
 simp[ik,cmW,cmI,cmY,cmX,cmB,cmC,f125,aM,partOf,unP,and_assoc,h0,h1,h6,h7,x1,x2,w1,hb,q1,q2,g,y6,aV,number,FP.free,cC,FP.apart]
theorem ajr (t i j m q:Nat)(hti:t=i+j)(hj:j<m)(hin:t<n)(hq:q<n)(hn:E.length=n)(h9:n<1000)(hb:aX hp id=some ⟨.live,cells E rest⟩)(h0:fr.length=66)(h00:nth fr 0 = .own id 2 0 n x)(h5:nth fr 5=iv q)(h6:nth fr 6 = .own id 2 (i*2) m x)(h7:nth fr 7=iv j) :
  ∃ fr' hp' wr',ae (CC L) run k (ik (aO cmW)) ⟨fr,hp,wr⟩=some (.normal,⟨fr',hp',wr'⟩)∧nth fr' 5=iv (q+1)∧Hx hp hp' id∧aX hp' id=some ⟨.live,cells (E.set q (E[t]'(by omega))) rest⟩:=by
 have q1:=ki E rest t (by omega)
 have o1:=FV E rest q (E[t]'(by omega)) (by omega)
 have x1:=VG id (i*2) m j x hj
 rw[show i*2+j*2=t*2 by omega] at x1
 have x2:=rm id n q x hq
 have l1:(eC true (E[t]'(by omega))).length=2:=rfl
 have k1:bj (eC true (E[t]'(by omega)))=true:=rfl
 have n1:=sE hb ⟨.live,cells (E.set q (E[t]'(by omega))) rest⟩
 have H1:=Hx.set hb ⟨.live,cells (E.set q (E[t]'(by omega))) rest⟩
 have hw:=bE q (by omega)
 generalize cells (E.set q (E[t]'(by omega))) rest=cs1 at *
 generalize eC true (E[t]'(by omega))=ci at *
 simp only[iv] at h5 h7
 simp[ik,cmW,cmI,cmY,cmX,cmB,cmC,f125,partOf,and_assoc,bp,h0,h00,h5,h6,h7,x1,x2,hb,q1,o1,l1,k1,n1,H1,hw,y6,aV]
def zC:Ψ:=[.sc (.slice none 0 0),.sc (.int .i64 0)]
theorem ajn (q:Nat)(hq:q≤n)(hn:E.length=n)(hb:aX hp id=some ⟨.live,cells E rest⟩)(h0:fr.length=66)(h00:nth fr 0 = .own id 2 0 n x)(h5:nth fr 5=iv q) :
  ∃ st,ae (CC L) run k (aO (aO cmY)) ⟨fr,hp,wr⟩=some (.ret,st)∧Hx hp st.hp id∧aX st.hp id=some ⟨.live,cells (E.take q) (rep (n - q) zC++rest)⟩∧aY TT st.fr st.hp f125.results.toList=some [.own id 2 0 q (x && q == n)]:=by
 have s1:=Rl hp id n q x hq
 have s2:=fun hp=>Rm hp id n q x hq
 have hz:zC.length=2:=rfl
 have hzk:bj zC=true:=rfl
 have ho:b9 (cells E rest) (q*2) (rep (n - q) zC)=some (cells (E.take q) (rep (n - q) zC++rest)):=by
  have h1:cells E rest=(E.take q).flatMap (eC true)++((E.drop q).flatMap (eC true)++rest):=by
   unfold cells
   rw[← append_assoc,← flatMap_append,take_append_drop]
  have h2:((E.take q).flatMap (eC true)).length=q*2:=by rw[(Cd true).length,length_take,Nat.min_eq_left (by omega)]
  have h3:(rep (n - q) zC).length=(n - q)*2:=Z2 _ _
  rw[h1,← h2]
  exact oP _ _ _ _ 0 (nG _ _ _ (by rw[(Cd true).length,length_drop,hn,h3]))
 have n1:=sE hb ⟨.live,cells (E.take q) (rep (n - q) zC++rest)⟩
 have H1:=Hx.set hb ⟨.live,cells (E.take q) (rep (n - q) zC++rest)⟩
 generalize cells (E.take q) (rep (n - q) zC++rest)=cs1 at *
 simp only[iv] at h5 s1 s2
 have zz:ef TT 102=some zC:=Gw
 simp[ik,cmY,cmX,cmB,cmC,f125,h0,h00,h5,s1,s2,hb,ho,n1,H1,zz,hz,hzk,ko,aY]
theorem aju (i:Nat)(p:PV)(hl:dc p=some n)(h0:fr.length=66)(h00:nth fr 0=p)(h5:nth fr 5=iv i) :
  ∃ fr',ae (CC L) run k (seq1 cmB) ⟨fr,hp,wr⟩=some (bif decide (i<n) then .normal else .exit 0,⟨fr',hp,wr⟩):=by
 simp only[iv] at h5
 obtain⟨u,hu⟩:∃ u,decide (i<n)=u:=⟨_,rfl⟩
 rw[hu]
 cases u <;> simp only[decide_eq_true_eq,decide_eq_false_iff_not] at hu <;> simp[cmB,cmC,f125,bM,h0,h00,h5,hl,hu,ko]
theorem akp (i:Nat)(h9:i<1000)(h0:fr.length=66)(h5:nth fr 5=iv i) :
  ∃ fr',ae (CC L) run k (aO (aO cmB)) ⟨fr,hp,wr⟩=some (.normal,⟨fr',hp,wr⟩)∧nth fr' 5=iv (i+1):=by
 have hw:=bE i (by omega)
 simp only[iv] at h5
 simp[cmB,cmC,f125,h0,h5,hw]
end
end Go.Proofs.YtjdmodeenbdfpaaGreat
end
