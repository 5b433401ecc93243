/- Contracts of the reference and of the law, part 52 of the proof; each lemma states its own conditions. -/
import Derived.Test.YtjdmodeenbdfpaaGreatT51
import Derived.Test.YtjdmodeenbdfpaaGreatT45
import Derived.Test.YtjdmodeenbdfpaaGreatT41
import Derived.Below
import Derived.Test.YtjdmodeenbdfpaaGreatT32
import Derived.Carry
import Derived.OpenShut
import Derived.ChangeArms
import Derived.ChangeSlices
import Derived.DataReads
import Derived.WideShapes
import Derived.SizedLaws
set_option linter.unusedSimpArgs false
set_option linter.unusedVariables false
noncomputable section
namespace Go.Proofs.YtjdmodeenbdfpaaGreat
open Go Go.Ab List Tryz
attribute [local simp] FzZ aA aF aG aH aL aU aa ab ae af ag ai aj an ao aq aw az bc bd bj
variable(L:Lst)(run:ar)(k:Nat)(fr:List PV)(hp:List Blk)(wr:List Nat)
theorem Jy:base.F.get 21=some f21:=by kernel_rfl
theorem Rj:base.shared 21=false:=by kernel_rfl
def inC:Code:=f21.body.getD .skip
def inB:Code:=(aC inC).getD .skip
theorem ajF:ah 2 inC = .seq (.seq (seq1 (seq1 (ah 2 inC))) (.block 0 (.loop inB))) (ah 3 inC):=rfl
theorem abO(l:List Int)(j:Nat)(hj:j<l.length)(h0:fr.length=26)(h00:nth fr 0=aE l)(h1:nth fr 1=aE l)(h5:nth fr 5=iv j) :
  ∃ fr' wr',af (CC L) run k (.block 1 (db inB)) ⟨fr,hp,wr⟩=some (.normal,⟨fr',hp,wr'⟩):=by
 obtain⟨r,x1,x2⟩:=nm l j hj
 generalize l[j]=z at *
 simp only[iv] at h5
 simp[db,inB,inC,f21,aC,partOf,h0,h00,h1,h5,x1,x2,aI,sI,aV,number,FP.free]
theorem afY (L:Lst)(run:ar)(k:Nat)(l:List Int):∃ fr wr,aX (CC L) run k 2 inC ⟨entry 26 [aE l,aE l],[],[]⟩=some ⟨fr,[],wr⟩∧fr.length=26∧nth fr 0=aE l∧nth fr 1=aE l:=by
 obtain⟨e1,e2,e3⟩:=cn 24 (aE l) (aE l)
 generalize entry 26 [aE l,aE l]=fr0 at *
 have hl:=pX l
 simp[inC,f21,aX,bO,and_assoc,e1,e2,e3,hl,jA]
theorem aiu(h0:fr.length=26):∃ fr',af (CC L) run k (seq1 (seq1 (ah 2 inC))) ⟨fr,hp,wr⟩=some (.normal,⟨fr',hp,wr⟩)∧nth fr' 5=iv 0:=by
 simp[iv,seq1,ah,inC,f21,h0]
theorem abN(h0:fr.length=26):∃ st,af (CC L) run k (ah 3 inC) ⟨fr,hp,wr⟩=some (.ret,st)∧aU TT st.fr st.hp f21.results.toList=some [.sc (.bool true)]:=by
 simp[inC,ah,f21,h0]
def ait (l:List Int):List PV:=[aE l,aE l]
def afX:List PV→Option (List PV):=ctr ait (fun l=>l.length≤1000) fun _=>[.sc (.bool true)]
theorem Vp:Ab.Spec base.P 21 afX:=Ab.Spec.bM (C:=CC LLi) (cP XJ) fun args rs h=>by
 obtain⟨l,h9,rfl,rfl⟩:=cN h
 obtain⟨fr1,wr1,a1,a2,a3,a4⟩:=afY LLi (runK (CC LLi) (l.length+2)) (l.length+2) l
 obtain⟨fr2,b1,b2⟩:=aiu LLi (runK (CC LLi) (l.length+2)) (l.length+2) fr1 [] wr1 a2
 have K2:=bJ _ b1
 have l2:=K2.len a2
 obtain⟨fr3,hp3,wr3,c1,c2,-⟩:=Lp.go (C:=CC LLi) (run:=runK (CC LLi) (l.length+2)) (k:=l.length+2) (l:=xL inB) (body:=db inB) (m:=26) (B:=inB) rfl (by kernel_rfl) (by kernel_rfl) (by kernel_rfl) vY (n:=l.length) (j0:=0) (by omega) (by omega) (by omega)
  (J:=fun _ _ _=>True) (fr0:=fr2) (hp0:=[]) (wr0:=wr1) (p:=aE l) l2 (K2.at a3 (by kernel_rfl)) (pX l) b2
  (fun _ _ _ _ _ _=>trivial)
  (fun j fr hp wr _ hj hK hij _=>by
   obtain⟨fr',wr',x1⟩:=abO LLi (runK (CC LLi) (l.length+2)) (l.length+2) fr hp wr l j hj (hK.len l2) (hK.at (K2.at a3 (by kernel_rfl)) (by kernel_rfl)) (hK.at (K2.at a4 (by kernel_rfl)) (by kernel_rfl)) hij
   exact⟨fr',hp,wr',x1,trivial⟩)
  trivial
 obtain⟨st,d1,d2⟩:=abN LLi (runK (CC LLi) (l.length+2)) (l.length+2) fr3 hp3 wr3 (c2.len l2)
 have hx:af (CC LLi) (runK (CC LLi) (l.length+2)) (l.length+2) inC ⟨entry 26 [aE l,aE l],[],[]⟩=some (.ret,st):=by
  have hs:af (CC LLi) (runK (CC LLi) (l.length+2)) (l.length+2) (.seq (seq1 (seq1 (ah 2 inC))) (.block 0 (.loop inB))) ⟨fr1,[],wr1⟩=some (.normal,⟨fr3,hp3,wr3⟩):=by rw[av b1];exact c1
  rw[aO 2 a1,ajF,av hs];exact d1
 exact⟨_,_,_,_,[.sc (.bool true)],[],aP Jy rfl hx d2,rfl,Wk.refl rfl,trivial⟩
theorem nt:base.F.get 3=some Tryz.f3:=by kernel_rfl
def lmC:Code:=Tryz.f3.body.getD .skip
theorem UZ(c:List (List ByteArray))(l:List Int)(z:Int)(lg:Bool)(h:lg=true∨8<l.length)(g1:au L run 11 [cE c] (.sc (.bool lg)))(g3:au L run 12 [] (.sc (.bool true))) :
  ∃ st,af (CC L) run k lmC ⟨entry 131 [cE c,aE l,.sc (.int .i64 z)],[],[]⟩=some (.ret,st)∧aU TT st.fr st.hp Tryz.f3.results.toList=some [.sc (.bool true)]:=by
 obtain⟨e0,e1,e2,e3⟩:=jY 128 (cE c) (aE l) (.sc (.int .i64 z))
 generalize entry 131 [cE c,aE l,.sc (.int .i64 z)]=fr0 at *
 have hl:=pX l
 unfold au at g1 g3
 cases lg with
 | true=>simp[lmC,Tryz.f3,e0,e1,g1,g3,undef]
 | false =>
  have h8:8<l.length:=by rcases h with h | h <;> first | cases h | exact h
  have h8':((8:Int)<(l.length:Int)):=by omega
  generalize l.length=n at *
  simp[lmC,Tryz.f3,bO,e0,e1,e2,g1,g3,hl,h8',jA]
theorem ap1(A:List PV)(h9:A.length≤1000):∃ p hp1 fp,cJ hp 1 (.imm 0 true []) A.length A=some (p,hp1,fp)∧((A=[]∧p = .imm 0 true [])∨∃ id,p = .own id 1 0 A.length false∧aY hp1 id=some ⟨.live,A⟩):=by
 by_cases h:A.length=0
 ·have e:A=[]:=eq_nil_of_length_eq_zero h
  subst e
  exact⟨.imm 0 true [],hp,FzZ,by simp[cJ],.inl ⟨rfl,rfl⟩⟩
 ·have hm:A.length≤cS:=Nat.le_trans h9 (by decide)
  refine⟨.own hp.length 1 0 A.length false,aM hp A,⟨[],[hp.length],true,false⟩,?_,.inr ⟨hp.length,rfl,al1 _ _⟩⟩
  simp only[cJ]
  rw[if_neg h,if_pos ⟨by simpa using hm,rfl⟩]
  simp
theorem afN (L:Lst)(run:ar)(k:Nat)(c:List (List ByteArray))(l:List Int)(z:Int)(h8:l.length≤8)(g1:au L run 11 [cE c] (.sc (.bool false))) :
  ∃ fr hp wr,aX (CC L) run k 3 lmC ⟨entry 131 [cE c,aE l,.sc (.int .i64 z)],[],[]⟩=some ⟨fr,hp,wr⟩∧fr.length=131∧nth fr 0=cE c∧nth fr 1=aE l∧nth fr 2 = .sc (.int .i64 z)∧∃ q ids,(∀ d,Ab.snap hp (d+2) (nth fr 7)=some (q,ids))∧canon q=aE l:=by
 obtain⟨e0,e1,e2,e3⟩:=jY 128 (cE c) (aE l) (.sc (.int .i64 z))
 generalize entry 131 [cE c,aE l,.sc (.int .i64 z)]=fr0 at *
 have hl:=pX l
 have lA:(l.flatMap ei).length=l.length:=by have:=E7.toEl.length l;simpa using this
 obtain⟨p,hp1,fp,a1,a2⟩:=ap1 [] (l.flatMap ei) (by omega)
 have okA:=E7.toEl.yR l
 have h8':((8:Int)<(l.length:Int))=False:=by apply propext;constructor <;> intro h <;> first | omega | exact h.elim
 have hrd:∀ hp,ew hp 1 (aE l)=some (l.length,l.flatMap ei,[]):=fun hp=>by unfold aE fg;simp only[ew,lA,Nat.mul_one,if_true]
 have lt0:eL TT 24 0 []=some (1,[]):=adl
 have id0:bU []=true:=rfl
 have fin:∃ q ids,(∀ d,Ab.snap hp1 (d+2) p=some (q,ids))∧canon q=aE l:=by
  rcases a2 with ⟨hA,rfl⟩| ⟨id,rfl,hid⟩
  ·have hl0:l=[]:=by
    cases l with
    | nil=>rfl
    | cons=>simp[ei] at hA
   subst hl0
   exact⟨.imm 0 true [],[],fun _=>rfl,E7.WZ 0 true [] rfl⟩
  ·have ht:bF (br (l.flatMap ei) 0) ((l.flatMap ei).length*1)=some (l.flatMap ei):=by rw[cA,drop_zero,Nat.mul_one,dh (Nat.le_refl _),take_length]
   refine⟨.imm (l.flatMap ei).length false (l.flatMap ei),[id],fun d => ?_,?_⟩
   ·rw[Ab.snap]
    simp only[hid]
    rw[if_neg (by simp),ht]
    simp only[E7.toEl.sns hp1 d l]
   ·exact E7.WZ _ false l lA.symm
 rw[lA] at a1
 generalize l.flatMap ei=cs at *
 generalize l.length=n at *
 unfold au at g1
 simp[aX,lmC,Tryz.f3,bO,and_assoc,e0,e1,e2,e3,g1,hl,h8',lt0,id0,hrd,okA,a1,jA,sI,bI,zI,cg]
 obtain⟨q,ids,h1,h2⟩:=fin
 exact⟨q,⟨ids,h1⟩,h2⟩
theorem VL (s:ByteArray):eD .eql s s=some (.bool true):=by rw[vH];simp
set_option maxHeartbeats 4000000 in
theorem abz(C A Z p:PV)(a:ByteArray)(e1 e2 e3 e4:Nat)(s r t:Int)(f1 f2 f3 f4 f5 f6 f7 f8 f9:FP)(c1:bX (CC L) run false hp 13 [C,p]=some (.tup [.sc (.string a),iv e1],hp,f1))(c2:bX (CC L) run false hp 14 [C,A]=some (.tup [.sc (.string a),iv e1],hp,f2))(c3:bX (CC L) run false hp 15 [C,p]=some (.tup [Ab.bz s,iv e2],hp,f3))(c4:bX (CC L) run false hp 16 [C,A]=some (.tup [Ab.bz s,iv e2],hp,f4))(c5:bX (CC L) run false hp 17 [C,p]=some (.tup [Ab.bz r,iv e3],hp,f5))(c6:bX (CC L) run false hp 18 [C,A]=some (.tup [Ab.bz r,iv e3],hp,f6))(c7:bX (CC L) run false hp 19 [C,p,Z]=some (.tup [Ab.bz t,iv e4],hp,f7))(c8:bX (CC L) run false hp 20 [C,A,Z]=some (.tup [Ab.bz t,iv e4],hp,f8))(c9:bX (CC L) run false hp 21 [p,A]=some (.sc (.bool true),hp,f9))(g3:au L run 12 [] (.sc (.bool true)))(h0:fr.length=131)(h00:nth fr 0=C)(h1:nth fr 1=A)(h2:nth fr 2=Z)(h7:nth fr 7=p) :
  ∃ st,af (CC L) run k (ah 3 lmC) ⟨fr,hp,wr⟩=some (.ret,st)∧aU TT st.fr st.hp Tryz.f3.results.toList=some [.sc (.bool true)]:=by
 have hs:=VL a
 unfold au at g3
 simp only[iv,Ab.bz] at c1 c2 c3 c4 c5 c6 c7 c8
 simp[ah,lmC,Tryz.f3,h0,h00,h1,h2,h7,c1,c2,c3,c4,c5,c6,c7,c8,c9,g3,hs]
def LMa:Lst:=[(11,Im),(12,iJ []),(13,DZ),(14,DZ),(15,iX),(16,iX),(17,xr),(18,xr),(19,nT),(20,nT),(21,afX)]
theorem ag5:dw base.P LMa:=⟨OG,acS,N4,Nn,qZ,Dw,HP,Hf,BM,Nl,Vp,trivial⟩
theorem MD:base.shared 14=false:=by kernel_rfl
theorem GJ:base.shared 18=false:=by kernel_rfl
def ah7 (p:CL):Prop:=(∀ q ∈ p.1,Bl q.length)
def UG:List PV→Option (List PV):=ctr eCL ah7 fun _=>[.sc (.bool true)]
theorem IJ (x:Rat)(e:Nat):∃ a e',jm x e=[.sc (.string a),iv e']:=by
 unfold jm
 split
 ·cases pB (Rb 1000 x)
  ·exact⟨_,_,rfl⟩
  ·exact⟨_,_,rfl⟩
 ·exact⟨_,_,rfl⟩
theorem Tv {c:List (List ByteArray)}{l:List Int}(hF:me c)(h9:l.length≤1000):DZ [cE c,aE l]=some (jm (vv (ef c l).1) (ef c l).2) :=
 jn (e:=eCA) (ok:=TI) (f:=fun p=>jm (vv (ef p.1 p.2).1) (ef p.1 p.2).2) (fun x y _ _ h=>by rw[pc h]) (x:=(c,l)) ⟨hF,h9⟩
theorem DY {c:List (List ByteArray)}{l:List Int}(hF:me c)(h9:l.length≤1000):iX [cE c,aE l]=some [Ab.bz (nV c l),iv (ef c l).2] :=
 jn (e:=eCA) (ok:=TI) (f:=fun p=>[Ab.bz (nV p.1 p.2),iv (ef p.1 p.2).2]) (fun x y _ _ h=>by rw[pc h]) (x:=(c,l)) ⟨hF,h9⟩
theorem NX {c:List (List ByteArray)}{l:List Int}(hF:me c)(h9:l.length≤900):xr [cE c,aE l]=some [Ab.bz (nc c l).1,iv (nc c l).2] :=
 jn (e:=eCA) (ok:=ah6) (f:=fun p=>[Ab.bz (nc p.1 p.2).1,iv (nc p.1 p.2).2]) (fun x y _ _ h=>by rw[pc h]) (x:=(c,l)) ⟨hF,h9⟩
theorem Tu {c:List (List ByteArray)}{l:List Int}(z:Int)(hF:me c)(h9:l.length≤1000):nT [cE c,aE l,.sc (.int .i64 z)]=some [Ab.bz (vd c l z).1,iv (vd c l z).2] :=
 jn (e:=eCL) (ok:=fun p=>me p.1∧p.2.1.length≤1000) (f:=fun p=>[Ab.bz (vd p.1 p.2.1 p.2.2).1,iv (vd p.1 p.2.1 p.2.2).2]) (fun x y _ _ h=>by rw[BZ h]) (x:=(c,l,z)) ⟨hF,h9⟩
theorem abL {l:List Int}(h9:l.length≤1000):afX [aE l,aE l]=some [.sc (.bool true)] :=
 jn (e:=ait) (ok:=fun l=>l.length≤1000) (f:=fun _=>[.sc (.bool true)]) (fun _ _ _ _ _=>rfl) (x:=l) h9
theorem Ic:Ab.Spec base.P 3 UG:=Ab.Spec.bM (C:=CC LMa) (cP ag5) fun args rs h=>by
 obtain⟨⟨c,l,z⟩,hB,rfl,rfl⟩:=cN h
 show ∃ k rs1 hp1 wr rs2 ids,runK (CC LMa) k 3 [cE c,aE l,.sc (.int .i64 z)] []=_∧_∧WkL rs2 [.sc (.bool true)]
 have g1:=ahl (L:=LMa) rfl (runK (CC LMa) 10) c hB
 have g3:=ac2 (L:=LMa) rfl (runK (CC LMa) 10)
 by_cases hearly:rp c=true∨8<l.length
 ·obtain⟨st,x1,x2⟩:=UZ LMa (runK (CC LMa) 10) 10 c l z (rp c) hearly g1 g3
  exact⟨11,_,_,_,_,_,aP nt rfl x1 x2,rfl,Wk.refl rfl,trivial⟩
 ·have hf:rp c=false:=by
   cases e:rp c with
   | true=>exact absurd (.inl e) hearly
   | false=>rfl
  have h8:l.length≤8:=by
   by_cases e:8<l.length
   ·exact absurd (.inr e) hearly
   ·omega
  have hF:=UY hf
  rw[hf] at g1
  obtain⟨fr,hp,wr,a1,a2,a3,a4,a5,q,ids,s1,s2⟩:=afN LMa (runK (CC LMa) 10) 10 c l z h8 g1
  have sc:Ab.snap hp 12 (cE c)=some (cE c,[]):=rfl
  have sa:Ab.snap hp 12 (aE l)=some (aE l,[]):=rfl
  have sz:Ab.snap hp 12 (.sc (.int .i64 z))=some (.sc (.int .i64 z),[]):=rfl
  have m2:bq (Ab.snap hp bn) [cE c,nth fr 7]=some ([cE c,q],[]++(ids++[])):=by
   show bq (Ab.snap hp 12) _=_
   simp only[bq,sc,s1 10]
  have m3:bq (Ab.snap hp bn) [cE c,nth fr 7,.sc (.int .i64 z)]=some ([cE c,q,.sc (.int .i64 z)],[]++(ids++([]++[]))):=by
   show bq (Ab.snap hp 12) _=_
   simp only[bq,sc,s1 10,sz]
  have m1:bq (Ab.snap hp bn) [nth fr 7,aE l]=some ([q,aE l],ids++([]++[])):=by
   show bq (Ab.snap hp 12) _=_
   simp only[bq,s1 10,sa]
  have r2:bq (Ab.snap hp bn) [cE c,aE l]=some ([cE c,aE l],[]):=rfl
  have r3:bq (Ab.snap hp bn) [cE c,aE l,.sc (.int .i64 z)]=some ([cE c,aE l,.sc (.int .i64 z)],[]):=rfl
  have k2:aJ [cE c,q]=[cE c,aE l]:=by simp only[aJ,fV,s2]
  have k3:aJ [cE c,q,.sc (.int .i64 z)]=[cE c,aE l,.sc (.int .i64 z)]:=by simp only[aJ,fV,s2];rfl
  have k1:aJ [q,aE l]=[aE l,aE l]:=by simp only[aJ,ja,s2]
  have j2:aJ [cE c,aE l]=[cE c,aE l]:=by simp only[aJ,fV,ja]
  have j3:aJ [cE c,aE l,.sc (.int .i64 z)]=[cE c,aE l,.sc (.int .i64 z)]:=by simp only[aJ,fV,ja];rfl
  have hD:=Tv (l:=l) hF (by omega)
  obtain⟨a,e1,hd⟩:=IJ (vv (ef c l).1) (ef c l).2
  rw[hd] at hD
  have hO:=DY (l:=l) hF (by omega)
  have hR:=NX (l:=l) hF (by omega)
  have hS:=Tu (l:=l) z hF (by omega)
  have hI:=abL (l:=l) (by omega)
  have c1:=fC (L:=LMa) YX rfl (runK (CC LMa) 10) false hp _ _ _ _ _ m2 k2 hD rfl
  have c2:=fC (L:=LMa) MD rfl (runK (CC LMa) 10) false hp _ _ _ _ _ r2 j2 hD rfl
  have c3:=fC (L:=LMa) wC rfl (runK (CC LMa) 10) false hp _ _ _ _ _ m2 k2 hO rfl
  have c4:=fC (L:=LMa) Da rfl (runK (CC LMa) 10) false hp _ _ _ _ _ r2 j2 hO rfl
  have c5:=fC (L:=LMa) Q9 rfl (runK (CC LMa) 10) false hp _ _ _ _ _ m2 k2 hR rfl
  have c6:=fC (L:=LMa) GJ rfl (runK (CC LMa) 10) false hp _ _ _ _ _ r2 j2 hR rfl
  have c7:=fC (L:=LMa) GM rfl (runK (CC LMa) 10) false hp _ _ _ _ _ m3 k3 hS rfl
  have c8:=fC (L:=LMa) MB rfl (runK (CC LMa) 10) false hp _ _ _ _ _ r3 j3 hS rfl
  have c9:=fC (L:=LMa) Rj rfl (runK (CC LMa) 10) false hp _ _ _ _ _ m1 k1 hI rfl
  obtain⟨st,x1,x2⟩:=abz LMa (runK (CC LMa) 10) 10 fr hp wr (cE c) (aE l) (.sc (.int .i64 z)) (nth fr 7) a e1 _ _ _ _ _ _ _ _ _ _ _ _ _ _ _ c1 c2 c3 c4 c5 c6 c7 c8 c9 g3 a2 a3 a4 a5 rfl
  have hx:af (CC LMa) (runK (CC LMa) 10) 10 lmC ⟨entry 131 [cE c,aE l,.sc (.int .i64 z)],[],[]⟩=some (.ret,st):=by rw[aO 3 a1];exact x1
  exact⟨11,_,_,_,_,_,aP nt rfl hx x2,rfl,Wk.refl rfl,trivial⟩
end Go.Proofs.YtjdmodeenbdfpaaGreat
namespace Go.Ab
open Go Go.RowKit List
end Go.Ab
namespace Go.Ab
open Go Go.RowKit List
def NoM:Nat→Prop:=fun _=>False
def Rdg {α:Type}(P:Program)(t:TypeId)(e:α→PV)(ok:α→Prop):Prop :=
 ∀ (H:Type) (enc:TypeId × Value→H) (W:World) (fuel:Nat) (cs:List Value) (x:DataW H × List MemPlace),DataW.trod enc P W 0 (fun _=>true) true fuel t cs=some x→(∀ n ∈ DataW.weights P t x.1,n≤reachBytes)→∃ a v,cs=[v]∧ok a∧V W NoM [] NoL (e a) v
theorem Hc {P:Program}{t:TypeId}(ht:P.underlying t=some .string):Rdg P t (fun s=>.sc (.string s)) (fun s=>s.size≤reachBytes):=fun H enc W fuel cs x h hw=>by
 obtain⟨s,h1,rfl,-⟩:=DataW.trod_string ht h
 refine⟨s,_,h1,hw s.size ?_,.sc _⟩
 simp only[DataW.weights,mem_singleton]
 rfl
theorem J9 {P:Program}{t:TypeId}{k:IntKind}(ht:P.underlying t=some (.int k)):Rdg P t (fun n:Int=>.sc (.int k n)) (fun n=>(Lit.int k n).wf=true):=fun H enc W fuel cs x h _=>by
 obtain⟨n,h1,-,h2⟩:=DataW.trod_int ht h
 exact⟨n,_,h1,h2,.sc _⟩
theorem VD {α:Type}(Q:Nat→α→Prop):∀ (n:Nat),(∀ i,i<n→∃ a,Q i a)→∃ l:List α,l.length=n∧∀ i a,l[i]?=some a→Q i a
 | 0,_=>⟨[],rfl,by simp⟩
 | n+1,h=>by
  obtain⟨l,h1,h2⟩:=VD Q n fun i hi=>h i (by omega)
  obtain⟨a,ha⟩:=h n (by omega)
  refine⟨l++[a],by simp[h1],fun i b hb => ?_⟩
  rcases Nat.lt_or_ge i l.length with hi | hi
  ·rw[getElem?_append_left hi] at hb;exact h2 i b hb
  ·rw[getElem?_append_right hi] at hb
   cases hj:i - l.length with
   | zero =>
    rw[hj] at hb
    cases hb
    have:i=n:=by omega
    rw[this]
    exact ha
   | succ j=>rw[hj] at hb;simp at hb
theorem tE {H:Type}{P:Program}{e:TypeId}{m:Nat} : ∀ {l:List (DataW H)} {i:Nat} {d:DataW H},l[i]?=some d→m ∈ DataW.weights P e d→m ∈ DataW.weightsAll P e l
 | [],i,d,h,_=>by simp at h
 | a::r,0,d,h,hm=>by
  cases h
  rw[DataW.weightsAll]
  exact mem_append_left _ hm
 | a::r,i+1,d,h,hm=>by
  rw[DataW.weightsAll]
  exact mem_append_right _ (tE (by simpa using h) hm)
theorem sH {α:Type}{P:Program}{t te:TypeId}{e:α→PV}{ok:α→Prop}(ht:P.underlying t=some (.slice te))(hs:P.cellsOf te=1)(hb:1≤P.bytesOf te)(hi:∀ a,(e a).cO=true)(h:Rdg P te e ok) :
  Rdg P t (fun l:List α=>.imm l.length false (l.map e)) (fun l=>l.length≤reachBytes∧∀ a ∈ l,ok a):=fun H enc W fuel cs x hx hw=>by
 rcases DataW.trod_slice ht hx with ⟨h1,-⟩| ⟨a,len,cap,elems,rest,n,-,h1,rfl,-,h3,h4,h5,h6,-,-⟩
 ·exact⟨[],_,h1,⟨Nat.zero_le _,by simp⟩,.nil _⟩
 ·have hw1:∀ (i:Nat) (hi:i<elems.length),∀ m ∈ DataW.weights P te (elems[i]).1,m≤reachBytes:=fun i hi m hm=>by
   refine hw m ?_
   simp only[DataW.weights,ht]
   refine mem_cons_of_mem _ (mem_append_left _ (tE (i:=i) (d:=(elems[i]).1) ?_ hm))
   rw[getElem?_map,getElem?_eq_getElem hi];rfl
  have hw2:len≤reachBytes:=by
   have:=hw ((elems.length+rest.length)*P.bytesOf te) (by simp only[DataW.weights,ht,length_map];exact mem_cons_self)
   refine Nat.le_trans ?_ this
   exact Nat.le_trans (by omega) (Nat.le_mul_of_pos_right _ hb)
  have hq:∀ i,i<len→∃ y,ok y∧a.spot=none∧∃ v,W.cell? ⟨a.block,a.off+i,none⟩=some v∧V W NoM [] NoL (e y) v:=fun i hil=>by
   have h7:=h6 i hil
   rw[getElem?_eq_getElem (by omega),Option.bind_eq_some_iff,hs,Nat.mul_one] at h7
   obtain⟨cs,h8,h9⟩:=h7
   obtain⟨y,v,h10,h11,h12⟩:=h H enc W n cs _ h9 (hw1 i (by omega))
   rw[h10] at h8
   have h13:=ChangeShapes.cell_of_cells?_one h8
   have h14:a.spot=none:=by
    rcases Nat.eq_zero_or_pos len with h0 | h0
    ·omega
    ·have h7:=h6 0 h0
     rw[getElem?_eq_getElem (by omega),Option.bind_eq_some_iff,hs,Nat.mul_one] at h7
     obtain⟨cs',h8',h9'⟩:=h7
     obtain⟨y',v',h10',-,-⟩:=h H enc W n cs' _ h9' (hw1 0 (by omega))
     rw[h10'] at h8'
     exact World.cell?_spot (ChangeShapes.cell_of_cells?_one h8')
   refine⟨y,h11,h14,v,?_,h12⟩
   rw[← h13]
   unfold Addr.add
   split
   ·rename_i h0;rw[h0];cases a;simp_all
   ·rfl
  obtain⟨l,hl,hg⟩:=VD _ len hq
  subst hl
  have hk:∀ (k:Nat) c,(l.map e)[k]?=some c→∃ y,l[k]?=some y∧c=e y:=fun k c hc=>by
   rw[getElem?_map,Option.map_eq_some_iff] at hc
   obtain⟨y,h7,h8⟩:=hc
   exact⟨y,h7,h8.symm⟩
  refine⟨l,_,h1,⟨hw2,fun y hy => ?_⟩,.imm l.length false _ a cap (fun k=>(W.cell? ⟨a.block,a.off+k,none⟩).getD default) h3 nofun (fun k c hc => ?_) (fun k c hc => ?_)⟩
  ·obtain⟨i,hi1,hi2⟩:=mem_iff_getElem.mp hy
   exact (hg i y (by rw[getElem?_eq_getElem hi1,hi2])).1
  ·obtain⟨y,h7,rfl⟩:=hk k c hc
   obtain⟨-,h9,v,h10,-⟩:=hg k y h7
   exact⟨h9,hi y,fun hf=>hf,by simp[h10]⟩
  ·obtain⟨y,h7,rfl⟩:=hk k c hc
   obtain⟨-,h9,v,h10,h11⟩:=hg k y h7
   simp only[h10,Option.getD_some]
   exact h11
theorem BA {α H:Type}{enc:TypeId × Value→H}{P:Program}{W:World}{t:TypeId}{e:α→PV}{ok:α→Prop}{v:Value}{d:DataW H}{ps:List MemPlace}(h:Rdg P t e ok)(hv:v.cells.toList=[v])(hx:DataW.Trod enc P W 0 (fun _=>true) true t v d ps)(hw:∀ n ∈ DataW.weights P t d,n≤reachBytes):∃ a,ok a∧V W NoM [] NoL (e a) v:=by
 obtain⟨fuel,hf⟩:=hx
 rw[hv] at hf
 obtain⟨a,u,h1,h2,h3⟩:=h H enc W fuel _ _ hf hw
 cases h1
 exact⟨a,h2,h3⟩
theorem wts {H:Type}{P:Program}{ts:List TypeId}{ds:List (DataW H)}(h:(DataW.weightsEach P ts ds).all (· ≤ reachBytes)=true)(j:Nat){t:TypeId}{d:DataW H}(ht:ts[j]?=some t)(hd:ds[j]?=some d):∀ n ∈ DataW.weights P t d,n≤reachBytes:=fun n hn=>by
 have:=all_eq_true.mp h n (DataW.weights_mem_each ht hd n hn)
 simpa using this
theorem yZ {P:Program}{g:FuncId}(he:∀ (args:Array Value)(w:World),(callFunc g args).run P w = .ok (.enter g args) w){f:List PV→Option (List PV)}(h:Spec P g f){ws:List PV}(hf:f ws=some [.sc (.bool true)])(hi:bU ws=true){W:World}{vs:List Value}(hv:Vs W NoM [] NoL ws vs) :
  Calls P g vs.toArray W fun e w'=>e = .returned (.bool true)∧Below W.heap.size W w':=by
 obtain⟨-,h2⟩:=h ws _ hf hi
 have h3:=h2 W NoM vs (fun _ hf=>hf.elim) hv
 unfold js at h3
 rw[he] at h3
 refine h3.mono fun e w' hh => ?_
 obtain⟨v,rfl,us,rfl,hv,ho⟩:=hh
 obtain⟨h4,h5⟩:=hv
 match us,h4 with
 | [u],_ =>
  have e1:=h5 0 _ u rfl rfl
  cases e1
  exact⟨rfl,ho.os,ho.tape,ho.output,ho.size,ho.same⟩
end Go.Ab
end
