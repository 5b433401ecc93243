/- Contracts of the law and of what it calls, and facts about determinants, part 43 of the proof; each lemma states its own conditions. -/
import Derived.Test.YtjdmodeenbdfpaaGreatR42
import Derived.Test.YtjdmodeenbdfpaaGreatR23
import Derived.Test.YtjdmodeenbdfpaaGreatR12
set_option linter.unusedSimpArgs false
set_option linter.unusedVariables false
namespace Go.Proofs.YtjdmodeenbdfpaaGreat
open Go Go.Ab
noncomputable def rq (s:ByteArray):Rat:=@Classical.epsilon Rat ⟨0⟩ fun x=>s=qb x
theorem aeE (x:Rat):rq (qb x)=x:=by
 have h:qb x=qb (rq (qb x)):=Classical.epsilon_spec (p:=fun y=>qb x=qb y) ⟨x,rfl⟩
 exact (vy h).symm
noncomputable def toX (c:List (List ByteArray)):List (List Rat):=c.map fun p=>p.map rq
def xc (c:List (List ByteArray)):Prop:=c.length≤100∧∀ p ∈ c,p.length≤100∧∀ s ∈ p,(bys s).length≤60
theorem xc.fit {c:List (List ByteArray)}(h:xc c):Fit c:=⟨h.1,fun p hp=>⟨(h.2 p hp).1,fun s hs=>Nat.le_trans ((h.2 p hp).2 s hs) (by omega)⟩⟩
theorem ZZ {m:Nat}{p:List ByteArray}(h:qp m p=0)(hs:∀ s ∈ p,(bys s).length≤60):p.length=m∧1≤m∧m≤3∧p=(p.map rq).map qb∧RbL 61 (p.map rq):=by
 unfold qp at h
 by_cases hb:p.length=0∨3<p.length∨p.length≠m
 ·rw[if_pos hb] at h;omega
 ·rw[if_neg hb] at h
  have hall:p.all (fun s=>pB (IsV s))=true:=by
   cases e:p.all (fun s=>pB (IsV s)) with
   | true=>rfl
   | false=>rw[e] at h;cases h
  rw[List.all_eq_true] at hall
  have hv:∀ s ∈ p,∃ x,s=qb x∧rq s=x∧Rb 61 x:=fun s hsp=>by
   obtain⟨x,hx,-⟩:=abF.1 (hall s hsp)
   refine⟨x,hx,by rw[hx,aeE],?_⟩
   exact aau (by rw[← hx];exact hs s hsp)
  refine⟨by omega,by omega,by omega,?_,?_⟩
  ·rw[List.map_map]
   conv=>lhs;rw[← List.map_id p]
   refine List.map_congr_left fun s hsp => ?_
   obtain⟨x,hx,e,-⟩:=hv s hsp
   show s=qb (rq s)
   rw[e];exact hx
  ·intro y hy
   obtain⟨s,hsp,rfl⟩:=List.mem_map.1 hy
   obtain⟨x,hx,e,hb⟩:=hv s hsp
   rw[e];exact hb
theorem Jk {m:Nat} : ∀ {c:List (List ByteArray)},jx m c=0→∀ p ∈ c,qp m p=0
 | p::r,h,q,hq=>by
  unfold jx at h
  by_cases h0:qp m p=0
  ·rw[if_pos h0] at h
   rcases List.mem_cons.1 hq with e | e
   ·rw[e];exact h0
   ·exact Jk h q e
  ·rw[if_neg h0] at h;exact absurd h h0
theorem AJ {c:List (List ByteArray)}(h:chk c=0)(hF:xc c):cE c=qC (toX c)∧NQ (hdL c) 61 (toX c)∧(c≠[]→1≤hdL c∧hdL c≤3)∧c.length≤64∧(toX c).length=c.length:=by
 unfold chk at h
 by_cases h64:64<c.length
 ·rw[if_pos h64] at h;omega
 ·rw[if_neg h64] at h
  have hp:=fun p hp=>ZZ (Jk h p hp) (hF.2 p hp).2
  refine⟨?_,?_,?_,by omega,by simp[toX]⟩
  ·unfold qC toX
   congr 1
   rw[List.map_map]
   conv=>lhs;rw[← List.map_id c]
   exact List.map_congr_left fun p hpc=>(hp p hpc).2.2.2.1
  ·intro P hP
   unfold toX at hP
   obtain⟨p,hpc,rfl⟩:=List.mem_map.1 hP
   have:=hp p hpc
   exact⟨by rw[List.length_map];exact this.1,this.2.2.2.2⟩
  ·intro hne
   cases c with
   | nil=>exact absurd rfl hne
   | cons p r =>
    have:=hp p List.mem_cons_self
    exact⟨this.2.1,this.2.2.1⟩
theorem AN {c:List (List ByteArray)}(h:chk c=0):mi c=hdL c:=by unfold mi;rw[if_pos h]
theorem Jl {c:List (List ByteArray)}{l:List Int}{n:Nat}(h:kH c l (n:Int)=0):chk c=0∧l.length=n∧∀ z ∈ l,0≤z∧z<c.length:=by
 unfold kH at h
 by_cases h1:chk c=0
 ·rw[if_neg (fun e=>e h1)] at h
  by_cases h2:(0:Int)≤(n:Int)∧(l.length:Int)≠n
  ·rw[if_pos h2] at h;omega
  ·rw[if_neg h2] at h
   refine⟨h1,by omega,fun z hz => ?_⟩
   cases hb:l.any (rS c.length) with
   | true=>rw[hb] at h;cases h
   | false =>
    rw[List.any_eq_false] at hb
    have:=hb z hz
    unfold rS at this
    simp only[Bool.or_eq_true,decide_eq_true_eq] at this
    omega
 ·rw[if_pos h1] at h;exact absurd h h1
theorem aaE {l:List Int}(h:∀ z ∈ l,0≤z):aE l=aN (l.map Int.toNat):=by
 unfold aN
 rw[List.map_map]
 congr 1
 conv=>lhs;rw[← List.map_id l]
 exact List.map_congr_left fun z hz=>(Int.toNat_of_nonneg (h z hz)).symm
noncomputable def mf (c:List (List ByteArray))(l:List Int):Option Rat × Nat :=
 if kH c l ((mi c+1:Nat):Int)=0 then (wJ (dq (toX c) (l.map Int.toNat)),0) else (none,kH c l ((mi c+1:Nat):Int))
theorem VA {j k:Nat}{X Y:List Rat}(hX:RbL j X)(hY:RbL k Y):RbL (j+k+1) (ij X Y):=by
 intro z hz
 unfold ij at hz
 rw[List.mem_iff_getElem] at hz
 obtain⟨i,hi,rfl⟩:=hz
 rw[List.getElem_zipWith]
 exact (hX _ (List.getElem_mem _)).sub (hY _ (List.getElem_mem _))
theorem N1 {X Y:List Rat}(h:X.length=Y.length):(ij X Y).length=X.length:=by unfold ij;rw[List.length_zipWith];omega
theorem qj {m k:Nat}{X:List (List Rat)}{l:List Nat}(hE:NQ m k X)(hin:∀ i ∈ l,i<X.length):∀ R ∈ dq X l,R.length=m∧RbL (2*k+1) R:=by
 intro R hR
 unfold dq at hR
 obtain⟨i,hi,rfl⟩:=List.mem_map.1 hR
 cases l with
 | nil=>simp at hi
 | cons j l =>
  have h1:=hin i (List.mem_cons_of_mem _ hi)
  have h2:=hin j List.mem_cons_self
  simp only[List.headD_cons,List.getD_eq_getElem?_getD,List.getElem?_eq_getElem h1,List.getElem?_eq_getElem h2,Option.getD_some]
  have e1:=hE _ (List.getElem_mem h1)
  have e2:=hE _ (List.getElem_mem h2)
  refine⟨by rw[N1 (by omega)];exact e1.1,fun z hz=>(VA e1.2 e2.2 z hz).mono (by omega)⟩
theorem lp (X:List (List Rat))(l:List Nat):(dq X l).length=l.length - 1:=by unfold dq;simp
theorem zy:base.F.get 42=some Tryz.f42:=by kernel_rfl
theorem VQ:base.shared 42=false:=by kernel_rfl
theorem AY:base.F.get 15=some Tryz.f15:=by kernel_rfl
theorem ET:base.shared 15=false:=by kernel_rfl
theorem ZL (L:Lst)(run:ar)(k:Nat)(c:List (List ByteArray))(l:List Int)(m e:Nat)(hm:m<1000)(he:e≠0)(g1:aA L run 81 [cE c] (iv m))(g2:aA L run 50 [cE c,aE l,.sc (.int .i64 ((m:Int)+1))] (iv e)) :
  ∃ st,af (CC L) run k (Tryz.f42.body.getD .skip) ⟨entry 21 [cE c,aE l],[],[]⟩=some (.ret,st)∧aZ TT st.fr st.hp Tryz.f42.results.toList=some [.agg rz,iv e]:=by
 obtain⟨e1,e2,e3⟩:=cC 19 (cE c) (aE l)
 generalize entry 21 [cE c,aE l]=fr0 at *
 have hw:=bE m (by omega)
 have hb:((e:Int) != 0)=true:=by simp;omega
 have hok:bg rz=true:=rfl
 have hrl:rz.length=4:=rfl
 have ho:=ee rz rz rfl
 have ht:=ed rz rfl
 have hbd:eN TT 72 []=some (.agg rz):=by simp[eN,zRz,uR,sW,rf0,rf1,dR]
 unfold aA at g1 g2
 simp only[iv] at g1 g2 ⊢
 simp[Tryz.f42,af,aJ,ao,aq,aH,ag,ai,aQ,aj,an,aF,aC,FP.none,bd,au,bj,aw,partOf,aa,ae,ab,bh,bn,e1,e2,e3,g1,g2,hw,hb,zRz,hok,hrl,ho,ht,hbd,aR,sR,aO,aV,bO,aU,br,aZ]
theorem TM (L:Lst)(run:ar)(k:Nat)(c:List (List ByteArray))(l:List Int)(m:Nat)(d:PV)(cs:List PV)(hcs:cs.length=4)(hok:bg cs=true)(hm:m<1000)(g1:aA L run 81 [cE c] (iv m))(g2:aA L run 50 [cE c,aE l,.sc (.int .i64 ((m:Int)+1))] (iv 0))(g3:aA L run 51 [cE c,aE l] d)(g4:aA L run 62 [d] (.agg cs)) :
  ∃ st,af (CC L) run k (Tryz.f42.body.getD .skip) ⟨entry 21 [cE c,aE l],[],[]⟩=some (.ret,st)∧aZ TT st.fr st.hp Tryz.f42.results.toList=some [.agg cs,iv 0]:=by
 obtain⟨e1,e2,e3⟩:=cC 19 (cE c) (aE l)
 generalize entry 21 [cE c,aE l]=fr0 at *
 have hw:=bE m (by omega)
 have ho:=ee rz cs (by rw[hcs];rfl)
 have ht:=ed cs hcs
 unfold aA at g1 g2 g3 g4
 simp only[iv,Int.cast_ofNat_Int] at g1 g2 ⊢
 simp[Tryz.f42,af,aJ,ao,aq,aH,ag,ai,aQ,aj,an,aF,aC,FP.none,bd,au,bj,aw,partOf,aa,ae,ab,bh,bn,e1,e2,e3,g1,g2,g3,g4,hw,zRz,hok,hcs,ho,ht,aR,sR,aO,aV,bO,aU,br,aZ]
noncomputable def LV1:Lst:=[(81,UE),(50,IA),(51,Ge),(62,Gg),(49,iq),(43,lL),(44,rtF)]
theorem UM:dL base.P LV1:=⟨Ns,yA,Gd,Gf,jH,lK,V8,trivial⟩
abbrev CA:=List (List ByteArray) × List Int
def eCA (p:CA):List PV:=[cE p.1,aE p.2]
theorem AE {p q:CA}(h:eCA p=eCA q):p=q:=by
 simp only[eCA,List.cons.injEq,and_true] at h
 exact Prod.ext (AM h.1) (Hu h.2)
def abK (p:CA):Prop:=xc p.1∧p.2.length≤1000
noncomputable def QT:List PV→Option (List PV):=ctr eCA abK fun p=>[rv (mf p.1 p.2).1,iv (mf p.1 p.2).2]
theorem ac7 {c:List (List ByteArray)}(h:Fit c):hdL c≤100:=by
 cases c with
 | nil=>exact Nat.zero_le _
 | cons p r=>exact (h.2 p List.mem_cons_self).1
theorem Jn {c:List (List ByteArray)}(h:Fit c):mi c<1000:=by
 have:=ac7 h
 unfold mi
 split <;> omega
theorem LQ:Ab.Spec base.P 42 QT:=Ab.Spec.bQ (C:=CC LV1) (cV UM) fun args rs h=>by
 obtain⟨⟨c,l⟩,⟨hF,h9⟩,rfl,rfl⟩:=dz h
 dsimp only at hF h9
 have g1:=ael (L:=LV1) rfl (runK (CC LV1) 1) c hF.fit
 have g2:=HA (L:=LV1) rfl (runK (CC LV1) 1) c l ((mi c+1:Nat):Int) hF.fit h9
 show ∃ k rs1 hp1 wr rs2 ids,runK (CC LV1) k 42 [cE c,aE l] []=_∧_∧WkL rs2 [rv (mf c l).1,iv (mf c l).2]
 unfold mf
 by_cases h0:kH c l ((mi c+1:Nat):Int)=0
 ·rw[if_pos h0]
  rw[h0] at g2
  obtain⟨h1,h2,h3⟩:=Jl h0
  obtain⟨q1,q2,q3,q4,q5⟩:=AJ h1 hF
  have hax:=AN h1
  have hlne:l≠[]:=by intro e;rw[e] at h2;simp at h2
  have hcne:c≠[]:=by
   intro e
   cases l with
   | nil=>exact hlne rfl
   | cons z l =>
    have:=h3 z List.mem_cons_self
    rw[e] at this
    simp at this
    omega
  have q3':=q3 hcne
  have hin:∀ i ∈ l.map Int.toNat,i<(toX c).length:=fun i hi=>by
   obtain⟨z,hz,rfl⟩:=List.mem_map.1 hi
   have:=h3 z hz
   rw[q5];omega
  have g3:=aag (L:=LV1) rfl (runK (CC LV1) 1) (toX c) (l.map Int.toNat) (by simpa using hlne) (by simpa using h9) hin (show hdL c≤1000 by omega) (show 61≤1000 by omega) q2
  rw[← q1,← aaE (fun z hz=>(h3 z hz).1)] at g3
  have hdo:=qj q2 hin
  have hdl:(dq (toX c) (l.map Int.toNat)).length=hdL c:=by rw[lp,List.length_map,h2,hax];omega
  have g4:=aah (L:=LV1) rfl (runK (CC LV1) 1) (mT (dq (toX c) (l.map Int.toNat))) _ (fun _=>rfl) (Uo _) (n:=hdL c) (by omega) (show 2*61+1≤1000 by omega) hdl hdo
  rw[x0] at g4
  obtain⟨st,x1,x2⟩:=TM LV1 (runK (CC LV1) 1) 1 c l (mi c) _ _ (Aa _) (qc.okc _) (Jn hF.fit) g1 g2 g3 g4
  rw[← x0] at x2
  exact⟨2,_,_,_,[rv (wJ (dq (toX c) (l.map Int.toNat)))]++[iv 0],[],aX zy rfl x1 x2,kD (uw _ _) rfl,Wk.refl (by rw[x0];exact qc.idf _),Wk.refl rfl,trivial⟩
 ·rw[if_neg h0]
  obtain⟨st,x1,x2⟩:=ZL LV1 (runK (CC LV1) 1) 1 c l (mi c) _ (Jn hF.fit) h0 g1 g2
  refine⟨2,_,_,_,[.agg rz,iv _],[],aX zy rfl x1 x2,rfl,?_,Wk.refl rfl,trivial⟩
  exact (show Rp (.agg rz) none from .inr ⟨rfl,rfl⟩).wk
theorem On (hp:List Blk)(p:CA):bt (snap hp bp) (eCA p)=some (eCA p,[]):=rfl
theorem Na (p:CA):aK (eCA p)=eCA p:=by simp only[eCA,aK,nC,wQ]
theorem aei {L:Lst}(hL:bw L 42=fun a=>QT (aK a))(run:ar)(c:List (List ByteArray))(l:List Int)(hF:xc c)(h9:l.length≤1000):aA L run 42 [cE c,aE l] (.tup [rv (mf c l).1,iv (mf c l).2]) :=
 jZ VQ (e:=eCA) (f:=fun p=>[rv (mf p.1 p.2).1,iv (mf p.1 p.2).2]) hL (fun x y _ _ h=>by rw[AE h]) run (c,l) ⟨hF,h9⟩ (On · _) (Na _)
theorem ZM {c:List (List ByteArray)}{l:List Int}(hF:xc c):Rb 100000 (vv (mf c l).1):=by
 unfold mf
 by_cases h0:kH c l ((mi c+1:Nat):Int)=0
 ·rw[if_pos h0]
  obtain⟨h1,h2,h3⟩:=Jl h0
  obtain⟨q1,q2,q3,q4,q5⟩:=AJ h1 hF
  have hax:=AN h1
  have hin:∀ i ∈ l.map Int.toNat,i<(toX c).length:=fun i hi=>by
   obtain⟨z,hz,rfl⟩:=List.mem_map.1 hi
   have:=h3 z hz
   rw[q5];omega
  have hdo:=qj q2 hin
  have hdl:(dq (toX c) (l.map Int.toNat)).length=hdL c:=by rw[lp,List.length_map,h2,hax];omega
  have hm:hdL c≤3:=by
   cases hc:c with
   | nil=>exact Nat.zero_le _
   | cons p r=>rw[← hc];exact (q3 (by rw[hc];simp)).2
  show Rb 100000 (vv (wJ _))
  unfold wJ
  refine (GU (k:=123) (by omega) _ _ fun R hR => ?_).mono ?_
  ·exact (hdo R hR).2
  ·rw[hdl]
   have:hdL c=0∨hdL c=1∨hdL c=2∨hdL c=3:=by omega
   rcases this with h | h | h | h <;> rw[h] <;> decide
 ·rw[if_neg h0]
  exact (Rb.zero 0).mono (by omega)
theorem DU (L:Lst)(run:ar)(k:Nat)(c:List (List ByteArray))(l:List Int)(cs:List PV)(e:Nat)(s:Int)(hcs:cs.length=4)(hok:bg cs=true)(g1:aA L run 42 [cE c,aE l] (.tup [.agg cs,iv e]))(g2:aA L run 49 [.agg cs] (Ab.bJ s)) :
  ∃ st,af (CC L) run k (Tryz.f15.body.getD .skip) ⟨entry 17 [cE c,aE l],[],[]⟩=some (.ret,st)∧aZ TT st.fr st.hp Tryz.f15.results.toList=some [Ab.bJ s,iv e]:=by
 obtain⟨e1,e2,e3⟩:=cC 15 (cE c) (aE l)
 generalize entry 17 [cE c,aE l]=fr0 at *
 have ho:=ee rz cs (by rw[hcs];rfl)
 have ht:=ed cs hcs
 unfold aA at g1 g2
 simp only[iv,Ab.bJ] at g1 g2 ⊢
 simp[Tryz.f15,af,aJ,ao,aq,aH,ag,ai,aQ,aj,an,aF,aC,FP.none,aw,partOf,aa,ae,ab,bh,bn,e1,e2,e3,g1,g2,zRz,hok,hcs,ho,ht,aR,sR,aO,aV,bO,aU,br,aZ]
noncomputable def LV2:Lst:=(42,QT)::LV1
theorem adV:dL base.P LV2:=⟨LQ,UM⟩
noncomputable def LU (c:List (List ByteArray))(l:List Int):Int:=kV (vv (mf c l).1)
noncomputable def vI:List PV→Option (List PV):=ctr eCA abK fun p=>[Ab.bJ (LU p.1 p.2),iv (mf p.1 p.2).2]
theorem Ap:Ab.Spec base.P 15 vI:=Ab.Spec.bQ (C:=CC LV2) (cV adV) fun args rs h=>by
 obtain⟨⟨c,l⟩,⟨hF,h9⟩,rfl,rfl⟩:=dz h
 dsimp only at hF h9
 have g1:=aei (L:=LV2) rfl (runK (CC LV2) 1) c l hF h9
 have g2:=aad (L:=LV2) rfl (runK (CC LV2) 1) (ZM (l:=l) hF) (by omega)
 rw[x0] at g1 g2
 obtain⟨st,x1,x2⟩:=DU LV2 (runK (CC LV2) 1) 1 c l _ (mf c l).2 _ (Aa _) (qc.okc _) g1 g2
 exact⟨2,_,_,_,_,_,aX AY rfl x1 x2,rfl,Wk.refl rfl,Wk.refl rfl,trivial⟩
def RowsIn (hp:List Blk)(id:Nat):List PV→List (List Rat)→Prop
 | [],[]=>True
 | v::vs,R::Rs=>(∃ j,v = .own j 4 0 R.length false∧j≠id∧aV hp j=some ⟨.live,R.flatMap rcs⟩)∧RowsIn hp id vs Rs
 | _,_=>False
theorem RowsIn.len {hp:List Blk}{id:Nat} : ∀ {vs:List PV} {Rs:List (List Rat)},RowsIn hp id vs Rs→vs.length=Rs.length
 | [],[],_=>rfl
 | v::vs,R::Rs,h=>by rw[List.length_cons,List.length_cons,RowsIn.len h.2]
 | [],_::_,h=>h.elim
 | _::_,[],h=>h.elim
theorem RowsIn.mono {hp hp':List Blk}{id id':Nat}(h1:∀ j,j≠id→j<hp.length→aV hp' j=aV hp j∧j≠id'):∀ {vs:List PV} {Rs:List (List Rat)},RowsIn hp id vs Rs→RowsIn hp' id' vs Rs
 | [],[],_=>trivial
 | v::vs,R::Rs,⟨⟨j,e1,e2,e3⟩,h⟩=>by
  have hj:j<hp.length:=by
   rw[cK] at e3
   exact (List.getElem?_eq_some_iff.1 e3).1
  obtain⟨m1,m2⟩:=h1 j e2 hj
  exact⟨⟨j,e1,m2,by rw[m1,e3]⟩,RowsIn.mono h1 h⟩
 | [],_::_,h=>h.elim
 | _::_,[],h=>h.elim
theorem RowsIn.snoc {hp:List Blk}{id j:Nat}{R:List Rat}(hj:j≠id)(hb:aV hp j=some ⟨.live,R.flatMap rcs⟩):∀ {vs:List PV} {Rs:List (List Rat)},RowsIn hp id vs Rs→RowsIn hp id (vs++[.own j 4 0 R.length false]) (Rs++[R])
 | [],[],_=>⟨⟨j,rfl,hj,hb⟩,trivial⟩
 | v::vs,S::Rs,h=>⟨h.1,RowsIn.snoc hj hb h.2⟩
 | [],_::_,h=>h.elim
 | _::_,[],h=>h.elim
theorem RowsIn.snap {hp:List Blk}{id:Nat} : ∀ {vs:List PV} {Rs:List (List Rat)},RowsIn hp id vs Rs→∃ ids,bt (Ab.snap hp 11) vs=some (Rs.flatMap eV,ids)
 | [],[],_=>⟨[],rfl⟩
 | v::vs,R::Rs,⟨⟨j,e1,_,e3⟩,h⟩=>by
  obtain⟨ids,hi⟩:=RowsIn.snap h
  have ht:bG (br (R.flatMap rcs) 0) (R.length*4)=some (R.flatMap rcs):=by
   have:=qK cG.toEl R []
   rw[List.append_nil] at this
   rw[cL,List.drop_zero,this]
  have h1:Ab.snap hp (10+1) v=some (vR R,[j]):=by
   rw[e1,Ab.snap]
   simp only[e3]
   rw[if_neg (by simp),ht]
   simp only[cG.sns hp 9 R]
   rfl
  refine⟨[j]++ids,?_⟩
  simp only[bt,h1,hi]
  rfl
 | [],_::_,h=>h.elim
 | _::_,[],h=>h.elim
theorem RowsIn.okc {hp:List Blk}{id:Nat} : ∀ {vs:List PV} {Rs:List (List Rat)},RowsIn hp id vs Rs→bg vs=true
 | [],[],_=>rfl
 | v::vs,R::Rs,⟨⟨j,e1,_,_⟩,h⟩=>by rw[bg,RowsIn.okc h,e1];rfl
 | [],_::_,h=>h.elim
 | _::_,[],h=>h.elim
def UK (hp:List Blk)(Rs:List (List Rat))(p:PV):Prop:=(Rs=[]∧p = .sc (.slice none 0 0))∨∃ id vs,p = .own id 1 0 Rs.length false∧aV hp id=some ⟨.live,vs⟩∧RowsIn hp id vs Rs
theorem UK.app {hp:List Blk}{Rs:List (List Rat)}{p:PV}(h:UK hp Rs p)(R:List Rat)(h9:Rs.length≤1000) :
  ∃ p' hp' fp,df (aO (aO hp (R.flatMap rcs)) [.own hp.length 4 0 R.length false]) 1 p 1 [.own hp.length 4 0 R.length false]=some (p',hp',fp)∧UK hp' (Rs++[R]) p':=by
 have n1:∀ cs:List PV,(aO hp cs).length=hp.length+1:=fun cs=>by simp[aO]
 have n2:(aO (aO hp (R.flatMap rcs)) [.own hp.length 4 0 R.length false]).length=hp.length+2:=by simp[aO]
 have hl:∀ j,j<hp.length→aV (aO (aO hp (R.flatMap rcs)) [.own hp.length 4 0 R.length false]) j=aV hp j:=fun j hj=>by
  rw[bN,if_neg (by rw[n1];omega),bN,if_neg (by omega)]
 have hr:aV (aO (aO hp (R.flatMap rcs)) [.own hp.length 4 0 R.length false]) hp.length=some ⟨.live,R.flatMap rcs⟩:=by
  rw[bN,if_neg (by rw[n1];omega),al1]
 rcases h with ⟨rfl,rfl⟩| ⟨id,vs,rfl,hb,hR⟩
 ·refine⟨_,_,_,rfl,.inr ⟨_,[.own hp.length 4 0 R.length false],rfl,al1 _ _,⟨⟨hp.length,rfl,by rw[n2];omega,?_⟩,trivial⟩⟩⟩
  rw[bN,if_neg (by rw[n2];omega),hr]
 ·have hid:id<hp.length:=by
   rw[cK] at hb
   exact (List.getElem?_eq_some_iff.1 hb).1
  have hb':=(hl id hid).trans hb
  have ht:bG (br vs 0) (Rs.length*1)=some vs:=by
   rw[cL,List.drop_zero,Nat.mul_one,dM (by rw[hR.len];exact Nat.le_refl _),← hR.len,List.take_length]
  have hm:Rs.length+1≤cY:=Nat.le_trans (show Rs.length+1≤1001 by omega) (by decide)
  have ha:df (aO (aO hp (R.flatMap rcs)) [.own hp.length 4 0 R.length false]) 1 (.own id 1 0 Rs.length false) 1 [.own hp.length 4 0 R.length false]=some (.own (hp.length+2) 1 0 (Rs.length+1) false,aO (bO (aO (aO hp (R.flatMap rcs)) [.own hp.length 4 0 R.length false]) id ⟨.dead,[]⟩) (vs++[.own hp.length 4 0 R.length false]),⟨[],[id,hp.length+2],true,false⟩):=by
   simp only[df,hb',ht,n2]
   rw[if_neg (by simp),if_pos hm]
  refine⟨_,_,_,ha,.inr ⟨hp.length+2,vs++[.own hp.length 4 0 R.length false],by simp,?_,?_⟩⟩
  ·rw[bN,bF,n2,if_pos rfl]
  ·refine RowsIn.snoc (by omega) ?_ (RowsIn.mono (fun j hj hj2=>⟨?_,by omega⟩) hR)
   ·rw[bN,bF,n2,if_neg (by omega),cQ hb',if_neg (by omega),hr]
   ·rw[bN,bF,n2,if_neg (by omega),cQ hb',if_neg (by omega),hl j hj2]
theorem UK.snap {hp:List Blk}{Rs:List (List Rat)}{p:PV}(h:UK hp Rs p):∃ q ids,bt (Ab.snap hp bp) [p]=some ([q],ids)∧canon q=mC Rs:=by
 rcases h with ⟨rfl,rfl⟩| ⟨id,vs,rfl,hb,hR⟩
 ·exact⟨.sc (.slice none 0 0),[],rfl,rfl⟩
 ·obtain⟨ids,hi⟩:=hR.snap
  have ht:bG (br vs 0) (Rs.length*1)=some vs:=by
   rw[cL,List.drop_zero,Nat.mul_one,dM (by rw[hR.len];exact Nat.le_refl _),← hR.len,List.take_length]
  have h1:Ab.snap hp (11+1) (.own id 1 0 Rs.length false)=some (mC Rs,id::ids):=by
   rw[Ab.snap]
   simp only[hb]
   rw[if_neg (by simp),ht]
   simp only[hi]
   rfl
  refine⟨mC Rs,(id::ids)++[],?_,afi.Hf Rs⟩
  show bt (Ab.snap hp 12) _=_
  simp only[bt,h1]
theorem aam:und TT 27=some .string:=by kernel_rfl
theorem pc:base.F.get 11=some Tryz.f11:=by kernel_rfl
theorem OI:base.shared 11=false:=by kernel_rfl
theorem tq:base.F.get 41=some Tryz.f41:=by kernel_rfl
theorem J5:base.shared 41=false:=by kernel_rfl
def Bl (n:Nat):Prop:=n<4611686018427387904
theorem Bl.i {n m:Nat}(h:Bl n)(hm:m<n):m<9223372036854775807:=Nat.lt_trans hm (Nat.lt_trans h (by decide))
def oD (s:ByteArray):Bool:=decide (60<(bys s).length)
def mz (p:List ByteArray):Bool:=p.any oD || decide (8<p.length)
def ov (c:List (List ByteArray)):Bool:=(decide (8<c.length) && decide (c.length≤64)) || (decide (70<c.length) || c.any mz)
noncomputable def lpC:Code:=Tryz.f41.body.getD .skip
noncomputable def lpB:Code:=(az lpC).getD .skip
def LpF (fr:List PV)(p:List ByteArray)(i:Nat):Prop:=fr.length=19∧nth fr 0=pE p∧nth fr 3=iv i
theorem ae8 (m:Nat):((m:Int) > 60)=(60<m):=by apply propext;omega
theorem gt8 (m:Nat):((m:Int) > 8)=(8<m):=by apply propext;omega
theorem lt8 (m:Nat):((8:Int)<(m:Int))=(8<m):=by apply propext;omega
theorem ae7 (m:Nat):((m:Int) > 70)=(70<m):=by apply propext;omega
theorem aeX (m:Nat):((70:Int)<(m:Int))=(70<m):=by apply propext;omega
theorem ae3 (m:Nat):((m:Int)≤64)=(m≤64):=by apply propext;omega
theorem acS (L:Lst)(run:ar)(k:Nat)(fr:List PV)(p:List ByteArray)(h:LpF fr p p.length) :
  ∃ fr',af (CC L) run k lpB ⟨fr,[],[]⟩=some (.exit 0,⟨fr',[],[]⟩)∧LpF fr' p p.length:=by
 obtain⟨h0,h1,h3⟩:=h
 have hl:=fQ p
 simp only[iv] at h3
 simp[LpF,iv,lpB,lpC,Tryz.f41,az,af,aJ,ao,aq,aH,ag,ai,aj,an,aF,aC,FP.none,bd,au,bj,bM,aa,ae,ab,bh,h0,h1,h3,hl,uRs]
theorem Sh (L:Lst)(run:ar)(k:Nat)(fr:List PV)(p:List ByteArray)(i:Nat)(hi:i<p.length)(h9:Bl p.length)(h:LpF fr p i) :
  ∃ fr',af (CC L) run k lpB ⟨fr,[],[]⟩=some (bif oD p[i] then .ret else .normal,⟨fr',[],[]⟩)∧(oD p[i]=true→nth fr' 2 = .sc (.bool true))∧(oD p[i]=false→LpF fr' p (i+1)):=by
 obtain⟨h0,h1,h3⟩:=h
 have hl:=fQ p
 obtain⟨r,x1,x2⟩:=IX uRs p i hi
 have hw:=bE i (h9.i hi)
 generalize p[i]=s at *
 have hb:oD s=decide (60<(bK s).length):=by unfold oD;rw[jz]
 rw[hb]
 simp only[iv] at h3
 by_cases hs:60<(bK s).length
 ·simp[LpF,iv,lpB,lpC,Tryz.f41,az,af,aJ,ao,aq,aH,ag,ai,aj,an,aF,aC,FP.none,bd,au,bj,aw,bM,partOf,aa,ae,ab,bh,h0,h1,h3,hl,uRs,aam,hi,x1,x2,hs,ae8,aU,DS,xZ]
 ·simp[LpF,iv,lpB,lpC,Tryz.f41,az,af,aJ,ao,aq,aH,ag,ai,aj,an,aF,aC,FP.none,bd,au,bj,aw,bM,partOf,aa,ae,ab,bh,h0,h1,h3,hl,uRs,aam,hi,x1,x2,hs,hw,ae8,aU,DS,xZ]
theorem IT (L:Lst)(run:ar)(k:Nat)(p:List ByteArray)(h9:Bl p.length):∀ (n i:Nat) (fr:List PV),i+n=p.length→LpF fr p i →
  (∃ fr',(p.drop i).any oD=false∧cl (af (CC L) run k lpB) (n+1) ⟨fr,[],[]⟩=some (.exit 0,⟨fr',[],[]⟩)∧LpF fr' p p.length)∨∃ fr',(p.drop i).any oD=true∧cl (af (CC L) run k lpB) (n+1) ⟨fr,[],[]⟩=some (.ret,⟨fr',[],[]⟩)∧nth fr' 2 = .sc (.bool true)
 | 0,i,fr,hin,h=>by
  have e:i=p.length:=by omega
  subst e
  obtain⟨fr',q1,q2⟩:=acS L run k fr p h
  rw[List.drop_length]
  exact .inl ⟨fr',rfl,bD q1,q2⟩
 | n+1,i,fr,hin,h=>by
  have hi:i<p.length:=by omega
  obtain⟨fr1,q1,q2,q3⟩:=Sh L run k fr p i hi h9 h
  rw[List.drop_eq_getElem_cons hi,List.any_cons]
  cases hv:oD p[i] with
  | true =>
   rw[hv] at q1
   exact .inr ⟨fr1,rfl,eF q1,q2 hv⟩
  | false =>
   rw[hv] at q1
   rw[Bool.false_or,ch q1]
   exact IT L run k p h9 n (i+1) fr1 (by omega) (q3 hv)
noncomputable def YM:Code:=seq1 (seq1 (ah 1 lpC))
theorem Sg:ah 1 lpC = .seq (.seq YM (.block 0 (.loop lpB))) (ah 2 lpC):=rfl
theorem acR (L:Lst)(run:ar)(k:Nat)(p:List ByteArray):∃ fr fr',aY (CC L) run k 1 lpC ⟨entry 19 [pE p],[],[]⟩=some ⟨fr,[],[]⟩∧af (CC L) run k YM ⟨fr,[],[]⟩=some (.normal,⟨fr',[],[]⟩)∧LpF fr' p 0:=by
 obtain⟨e1,e2⟩:=cW 18 (pE p)
 generalize entry 19 [pE p]=fr0 at *
 obtain⟨fr,a1,a2,a3⟩:∃ fr,aY (CC L) run k 1 lpC ⟨fr0,[],[]⟩=some ⟨fr,[],[]⟩∧fr.length=19∧nth fr 0=pE p:=by
  simp[lpC,Tryz.f41,aY,e1,e2,af,aJ,ao,aq,aH,ag,ai,aj,an,aF,aC,FP.none,aw,ae,ab]
 refine⟨fr,?_⟩
 rw[a1]
 simp[LpF,iv,YM,seq1,ah,lpC,Tryz.f41,a2,a3,af,aJ,ao,aq,aH,ag,ai,aj,an,aF,aC,FP.none,aw,aa,ae,ab]
theorem YL (L:Lst)(run:ar)(k:Nat)(fr:List PV)(p:List ByteArray)(h:LpF fr p p.length):∃ st,af (CC L) run k (ah 2 lpC) ⟨fr,[],[]⟩=some (.ret,st)∧aZ TT st.fr st.hp Tryz.f41.results.toList=some [.sc (.bool (decide (8<p.length)))]:=by
 obtain⟨h0,h1,h3⟩:=h
 have hl:=fQ p
 simp[lpC,ah,Tryz.f41,h0,h1,hl,af,aJ,ao,aq,aH,ag,ai,aj,an,aF,aC,FP.none,bd,au,bj,aw,bM,aa,ab,bh,uRs,gt8,aZ]
theorem acQ (fr:List PV)(hp:List Blk)(b:PV)(h:nth fr 2=b):aZ TT fr hp Tryz.f41.results.toList=some [b]:=by
 simp[Tryz.f41,aZ,h]
noncomputable def GD:List PV→Option (List PV):=ctr (fun p=>[pE p]) (fun p=>Bl p.length) fun p=>[.sc (.bool (mz p))]
theorem GC:Ab.Spec base.P 41 GD:=Ab.Spec.bQ (C:=CC []) (cV trivial) fun args rs h=>by
 obtain⟨p,h9,rfl,rfl⟩:=dz h
 obtain⟨fr,fr1,a1,a2,a3⟩:=acR [] (runK (CC []) (p.length+1)) (p.length+1) p
 have hl:=IT [] (runK (CC []) (p.length+1)) (p.length+1) p h9 p.length 0 fr1 (by omega) a3
 rw[List.drop_zero] at hl
 show ∃ k rs1 hp1 wr rs2 ids,_∧_∧WkL rs2 [.sc (.bool (mz p))]
 unfold mz
 rcases hl with ⟨fr2,h0,b1,b2⟩| ⟨fr2,h0,b1,b2⟩
 ·obtain⟨st,c1,c2⟩:=YL [] (runK (CC []) (p.length+1)) (p.length+1) fr2 p b2
  have hL:af (CC []) (runK (CC []) (p.length+1)) (p.length+1) (.seq YM (.block 0 (.loop lpB))) ⟨fr,[],[]⟩=some (.normal,⟨fr2,[],[]⟩):=by
   rw[av a2];exact bH b1
  rw[← av hL,← Sg,← aP 1 a1] at c1
  rw[h0,Bool.false_or]
  exact⟨_,_,_,_,_,_,aX tq rfl c1 c2,rfl,Wk.refl rfl,trivial⟩
 ·have hL:af (CC []) (runK (CC []) (p.length+1)) (p.length+1) lpC ⟨entry 19 [pE p],[],[]⟩=some (.ret,⟨fr2,[],[]⟩):=by
   rw[aP 1 a1,Sg]
   refine cB ?_
   rw[av a2];exact da b1
  rw[h0,Bool.true_or]
  exact⟨_,_,_,_,_,_,aX tq rfl hL (acQ _ _ _ b2),rfl,Wk.refl rfl,trivial⟩
theorem aai {L:Lst}(hL:bw L 41=fun a=>GD (aK a))(run:ar)(p:List ByteArray)(h9:Bl p.length):aA L run 41 [pE p] (.sc (.bool (mz p))) :=
 jZ J5 (e:=fun p=>[pE p]) (f:=fun p=>[.sc (.bool (mz p))]) hL (fun x y _ _ h=>by rw[Gh (p:=x) (q:=y) (by simpa using h)]) run p h9 (fun _=>rfl) (by simp only[aK,DC])
noncomputable def lgC:Code:=Tryz.f11.body.getD .skip
noncomputable def lgB:Code:=(az lgC).getD .skip
def LgF (fr:List PV)(c:List (List ByteArray))(i:Nat):Prop:=fr.length=28∧nth fr 0=cE c∧nth fr 3=iv i
theorem acY (L:Lst)(run:ar)(k:Nat)(fr:List PV)(c:List (List ByteArray))(h:LgF fr c c.length) :
  ∃ fr',af (CC L) run k lgB ⟨fr,[],[]⟩=some (.exit 0,⟨fr',[],[]⟩)∧LgF fr' c c.length:=by
 obtain⟨h0,h1,h3⟩:=h
 have hl:=iz c
 simp only[iv] at h3
 simp[LgF,iv,lgB,lgC,Tryz.f11,az,af,aJ,ao,aq,aH,ag,ai,aj,an,aF,aC,FP.none,bd,au,bj,bM,aa,ae,ab,bh,h0,h1,h3,hl,uCl]
theorem SD (L:Lst)(run:ar)(k:Nat)(fr:List PV)(c:List (List ByteArray))(i:Nat)(v:Bool)(hi:i<c.length)(h9:c.length<1000)(g:aA L run 41 [pE c[i]] (.sc (.bool v)))(h:LgF fr c i) :
  ∃ fr',af (CC L) run k lgB ⟨fr,[],[]⟩=some (bif v then .ret else .normal,⟨fr',[],[]⟩)∧(v=true→nth fr' 2 = .sc (.bool true))∧(v=false→LgF fr' c (i+1)):=by
 obtain⟨h0,h1,h3⟩:=h
 have hl:=iz c
 obtain⟨r,x1,x2⟩:=jP uCl c i hi
 have hw:=bE i (by omega)
 unfold aA at g
 generalize c[i]=p at *
 simp only[iv] at h3
 cases v <;> simp[LgF,iv,lgB,lgC,Tryz.f11,az,af,aJ,ao,aq,aH,ag,ai,aQ,aj,an,aF,aC,FP.none,bd,au,bj,aw,bM,partOf,aa,ae,ab,bh,h0,h1,h3,hl,uCl,hi,x1,x2,g,hw,aU,aPt,sPt]
theorem IU (L:Lst)(run:ar)(k:Nat)(c:List (List ByteArray))(h9:c.length<1000)(g:∀ p ∈ c,aA L run 41 [pE p] (.sc (.bool (mz p)))):∀ (n i:Nat) (fr:List PV),i+n=c.length→LgF fr c i →
  (∃ fr',(c.drop i).any mz=false∧cl (af (CC L) run k lgB) (n+1) ⟨fr,[],[]⟩=some (.exit 0,⟨fr',[],[]⟩)∧LgF fr' c c.length)∨∃ fr',(c.drop i).any mz=true∧cl (af (CC L) run k lgB) (n+1) ⟨fr,[],[]⟩=some (.ret,⟨fr',[],[]⟩)∧nth fr' 2 = .sc (.bool true)
 | 0,i,fr,hin,h=>by
  have e:i=c.length:=by omega
  subst e
  obtain⟨fr',q1,q2⟩:=acY L run k fr c h
  rw[List.drop_length]
  exact .inl ⟨fr',rfl,bD q1,q2⟩
 | n+1,i,fr,hin,h=>by
  have hi:i<c.length:=by omega
  obtain⟨fr1,q1,q2,q3⟩:=SD L run k fr c i _ hi h9 (g _ (List.getElem_mem hi)) h
  rw[List.drop_eq_getElem_cons hi,List.any_cons]
  cases hv:mz c[i] with
  | true =>
   rw[hv] at q1 q2
   exact .inr ⟨fr1,rfl,eF q1,q2 rfl⟩
  | false =>
   rw[hv] at q1 q3
   rw[Bool.false_or,ch q1]
   exact IU L run k c h9 g n (i+1) fr1 (by omega) (q3 rfl)
noncomputable def YY:Code:=seq1 (seq1 (ah 2 lgC))
theorem SC:ah 2 lgC = .seq (.seq YY (.block 0 (.loop lgB))) (ah 3 lgC):=rfl
theorem YX (L:Lst)(run:ar)(k:Nat)(c:List (List ByteArray))(h:8<c.length∧c.length≤64∨70<c.length):∃ st,af (CC L) run k lgC ⟨entry 28 [cE c],[],[]⟩=some (.ret,st)∧aZ TT st.fr st.hp Tryz.f11.results.toList=some [.sc (.bool true)]:=by
 obtain⟨e1,e2⟩:=cW 27 (cE c)
 generalize entry 28 [cE c]=fr0 at *
 have hl:=iz c
 generalize c.length=m at *
 have a1:=gt8 m
 have a2:=lt8 m
 have a3:=ae7 m
 have a4:=aeX m
 have a5:=ae3 m
 by_cases b8:8<m
 ·by_cases b64:m≤64
  ·simp[lgC,Tryz.f11,e1,e2,af,aJ,ao,aq,aH,ag,ai,aj,an,aF,aC,FP.none,bd,au,bj,aw,bM,aa,ae,ab,bh,hl,uCl,a1,a5,b8,b64,undef,aZ]
  ·have b70:70<m:=by omega
   simp[lgC,Tryz.f11,e1,e2,af,aJ,ao,aq,aH,ag,ai,aj,an,aF,aC,FP.none,bd,au,bj,aw,bM,aa,ae,ab,bh,hl,uCl,a1,a3,a5,b8,b64,b70,aZ]
 ·omega
theorem acX (L:Lst)(run:ar)(k:Nat)(c:List (List ByteArray))(h : ¬ (8<c.length∧c.length≤64∨70<c.length)):∃ fr fr',aY (CC L) run k 2 lgC ⟨entry 28 [cE c],[],[]⟩=some ⟨fr,[],[]⟩∧af (CC L) run k YY ⟨fr,[],[]⟩=some (.normal,⟨fr',[],[]⟩)∧LgF fr' c 0:=by
 obtain⟨e1,e2⟩:=cW 27 (cE c)
 generalize entry 28 [cE c]=fr0 at *
 have hl:=iz c
 have a1:=gt8 c.length
 have a2:=lt8 c.length
 have a3:=ae7 c.length
 have a4:=aeX c.length
 have a5:=ae3 c.length
 have b70 : ¬ 70<c.length:=fun e=>h (.inr e)
 obtain⟨fr,z1,z2,z3⟩:∃ fr,aY (CC L) run k 2 lgC ⟨fr0,[],[]⟩=some ⟨fr,[],[]⟩∧fr.length=28∧nth fr 0=cE c:=by
  by_cases b8:8<c.length
  ·have b64 : ¬ c.length≤64:=fun e=>h (.inl ⟨b8,e⟩)
   simp[lgC,Tryz.f11,aY,e1,e2,af,aJ,ao,aq,aH,ag,ai,aj,an,aF,aC,FP.none,bd,au,bj,aw,bM,aa,ae,ab,bh,hl,uCl,a1,a3,a5,b8,b64,b70]
  ·simp[lgC,Tryz.f11,aY,e1,e2,af,aJ,ao,aq,aH,ag,ai,aj,an,aF,aC,FP.none,bd,au,bj,aw,bM,aa,ae,ab,bh,hl,uCl,a1,a3,b8,b70,undef]
 refine⟨fr,?_⟩
 rw[z1]
 simp[LgF,iv,YY,seq1,ah,lgC,Tryz.f11,z2,z3,af,aJ,ao,aq,aH,ag,ai,aj,an,aF,aC,FP.none,aw,aa,ae,ab]
theorem YW (L:Lst)(run:ar)(k:Nat)(fr:List PV)(c:List (List ByteArray))(h:LgF fr c c.length):∃ st,af (CC L) run k (ah 3 lgC) ⟨fr,[],[]⟩=some (.ret,st)∧aZ TT st.fr st.hp Tryz.f11.results.toList=some [.sc (.bool false)]:=by
 obtain⟨h0,h1,h3⟩:=h
 simp[lgC,ah,Tryz.f11,h0,af,aJ,ao,aq,aH,ag,ai,aj,an,aF,aC,FP.none,aw,aa,aZ]
theorem acW (fr:List PV)(hp:List Blk)(b:PV)(h:nth fr 2=b):aZ TT fr hp Tryz.f11.results.toList=some [b]:=by
 simp[Tryz.f11,aZ,h]
noncomputable def LV4:Lst:=[(41,GD)]
noncomputable def GG:List PV→Option (List PV):=ctr (fun c=>[cE c]) (fun c=>∀ p ∈ c,Bl p.length) fun c=>[.sc (.bool (ov c))]
theorem MA:Ab.Spec base.P 11 GG:=Ab.Spec.bQ (C:=CC LV4) (cV ⟨GC,trivial⟩) fun args rs h=>by
 obtain⟨c,h9,rfl,rfl⟩:=dz h
 show ∃ k rs1 hp1 wr rs2 ids,_∧_∧WkL rs2 [.sc (.bool (ov c))]
 by_cases hm:8<c.length∧c.length≤64∨70<c.length
 ·have e:ov c=true:=by
   unfold ov
   rcases hm with ⟨h1,h2⟩| h1
   ·rw[decide_eq_true h1,decide_eq_true h2];rfl
   ·rw[decide_eq_true h1];simp
  rw[e]
  obtain⟨st,x1,x2⟩:=YX LV4 (runK (CC LV4) 1) 1 c hm
  exact⟨_,_,_,_,_,_,aX pc rfl x1 x2,rfl,Wk.refl rfl,trivial⟩
 ·have e:ov c=c.any mz:=by
   unfold ov
   have h1:decide (70<c.length)=false:=decide_eq_false fun e=>hm (.inr e)
   have h2:(decide (8<c.length) && decide (c.length≤64))=false:=by
    by_cases h8:8<c.length
    ·rw[decide_eq_false fun e=>hm (.inl ⟨h8,e⟩),Bool.and_false]
    ·rw[decide_eq_false h8,Bool.false_and]
   rw[h1,h2,Bool.false_or,Bool.false_or]
  have hc9:c.length<1000:=by omega
  rw[e]
  obtain⟨fr,fr1,a1,a2,a3⟩:=acX LV4 (runK (CC LV4) (c.length+1)) (c.length+1) c hm
  have hl:=IU LV4 (runK (CC LV4) (c.length+1)) (c.length+1) c hc9 (fun p hp=>aai rfl _ p (h9 p hp)) c.length 0 fr1 (by omega) a3
  rw[List.drop_zero] at hl
  rcases hl with ⟨fr2,h0,b1,b2⟩| ⟨fr2,h0,b1,b2⟩
  ·obtain⟨st,c1,c2⟩:=YW LV4 (runK (CC LV4) (c.length+1)) (c.length+1) fr2 c b2
   have hL:af (CC LV4) (runK (CC LV4) (c.length+1)) (c.length+1) (.seq YY (.block 0 (.loop lgB))) ⟨fr,[],[]⟩=some (.normal,⟨fr2,[],[]⟩):=by
    rw[av a2];exact bH b1
   rw[← av hL,← SC,← aP 2 a1] at c1
   rw[h0]
   exact⟨_,_,_,_,_,_,aX pc rfl c1 c2,rfl,Wk.refl rfl,trivial⟩
  ·have hL:af (CC LV4) (runK (CC LV4) (c.length+1)) (c.length+1) lgC ⟨entry 28 [cE c],[],[]⟩=some (.ret,⟨fr2,[],[]⟩):=by
    rw[aP 2 a1,SC]
    refine cB ?_
    rw[av a2];exact da b1
   rw[h0]
   exact⟨_,_,_,_,_,_,aX pc rfl hL (acW _ _ _ b2),rfl,Wk.refl rfl,trivial⟩
theorem aej {L:Lst}(hL:bw L 11=fun a=>GG (aK a))(run:ar)(c:List (List ByteArray))(h9:∀ p ∈ c,Bl p.length):aA L run 11 [cE c] (.sc (.bool (ov c))) :=
 jZ OI (e:=fun c=>[cE c]) (f:=fun c=>[.sc (.bool (ov c))]) hL (fun x y _ _ h=>by rw[tY h]) run c h9 (pw · c) (og c)
theorem CW {c:List (List ByteArray)}(h:ov c=false):xc c:=by
 unfold ov at h
 simp only[Bool.or_eq_false_iff,decide_eq_false_iff_not] at h
 obtain⟨h1,h2,h3⟩:=h
 refine⟨by omega,fun p hp => ?_⟩
 rw[List.any_eq_false] at h3
 have h4:=h3 p hp
 unfold mz at h4
 simp only[Bool.or_eq_true,not_or,List.any_eq_true,decide_eq_true_eq,not_exists,not_and] at h4
 refine⟨by omega,fun s hs => ?_⟩
 have:=h4.1 s hs
 unfold oD at this
 simp only[decide_eq_true_eq] at this
 omega
theorem RbL.at {k:Nat}{X:List Rat}(h:RbL k X)(hk:0<k)(i:Nat):Rb k (X.getD i 0):=by
 rw[List.getD_eq_getElem?_getD]
 cases e:X[i]? with
 | none=>exact (Rb.zero 0).mono (by omega)
 | some x=>exact h x (List.mem_of_getElem? e)
end Go.Proofs.YtjdmodeenbdfpaaGreat
namespace Go.Ab
open Go
def aaC:Int→Int→Bool
 | .ofNat a,.ofNat b=>a.beq b
 | .negSucc a,.negSucc b=>a.beq b
 | _,_=>false
theorem Tk:∀ {a b:Int},aaC a b=true→a=b
 | .ofNat a,.ofNat b,h=>by rw[Nat.eq_of_beq_eq_true h]
 | .negSucc a,.negSucc b,h=>by rw[Nat.eq_of_beq_eq_true h]
 | .ofNat _,.negSucc _,h=>by cases h
 | .negSucc _,.ofNat _,h=>by cases h
def eqB:Bool→Bool→Bool
 | true,true=>true
 | false,false=>true
 | _,_=>false
theorem Tl:∀ {a b:Bool},eqB a b=true→a=b
 | true,true,_=>rfl
 | false,false,_=>rfl
 | true,false,h=>by cases h
 | false,true,h=>by cases h
theorem y8:∀ {a b:List UInt8},eqL a b=true→a=b
 | [],[],_=>rfl
 | a::x,b::y,h=>by
  simp only[eqL,Bool.and_eq_true,beq_iff_eq] at h
  rw[y8 h.2,UInt8.toNat_inj.1 h.1]
 | [],_::_,h=>by simp[eqL] at h
 | _::_,[],h=>by simp[eqL] at h
def qa (e:PV→PV→Bool):List PV→List PV→Bool
 | [],[]=>true
 | a::x,b::y=>e a b && qa e x y
 | _,_=>false
theorem pZ {e:PV→PV→Bool}(h:∀ a b,e a b=true→a=b):∀ {x y:List PV},qa e x y=true→x=y
 | [],[],_=>rfl
 | a::x,b::y,hh=>by
  simp only[qa,Bool.and_eq_true] at hh
  rw[h a b hh.1,pZ h hh.2]
 | [],_::_,hh=>by simp[qa] at hh
 | _::_,[],hh=>by simp[qa] at hh
def eqP:Nat→PV→PV→Bool
 | 0,_,_=>false
 | k+1,a,b=>match a,b with
  | .sc (.int i m),.sc (.int j n)=>eqK i j && aaC m n
  | .sc (.bool m),.sc (.bool n)=>eqB m n
  | .sc (.string s),.sc (.string t)=>eqL (bK s) (bK t)
  | .imm m x cs,.imm n y ds=>m.beq n && (eqB x y && qa (eqP k) cs ds)
  | .agg cs,.agg ds=>qa (eqP k) cs ds
  | _,_=>false
theorem GW:∀ (k:Nat) (a b:PV),eqP k a b=true→a=b
 | 0,a,b,h=>by cases h
 | k+1,a,b,h=>by
  unfold eqP at h
  split at h
  ·simp only[Bool.and_eq_true] at h
   rw[Tj h.1,Tk h.2]
  ·rw[Tl h]
  ·rename_i s t
   have:=y8 h
   rw[← fx s,← fx t,this]
  ·simp only[Bool.and_eq_true] at h
   rw[Nat.eq_of_beq_eq_true h.1,Tl h.2.1,pZ (GW k) h.2.2]
  ·rw[pZ (GW k) h]
  ·cases h
def ib (args:List PV):List PV→Option (List PV):=fun a=>bif qa (eqP 8) (aK a) args then some [.sc (.bool true)] else none
def orF (f f':List PV→Option (List PV)):List PV→Option (List PV):=fun a=>match f a with
 | some r=>some r
 | none=>f' a
end Go.Ab
