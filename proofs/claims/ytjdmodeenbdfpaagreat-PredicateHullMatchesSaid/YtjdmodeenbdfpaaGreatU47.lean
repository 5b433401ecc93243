/- Contracts of the two hulls, of the program and of the reference, part 47; each lemma states its conditions. -/
import Derived.Test.YtjdmodeenbdfpaaGreatU46
set_option linter.unusedSimpArgs false
set_option linter.unusedVariables false
noncomputable section
namespace Go.Proofs.YtjdmodeenbdfpaaGreat
open Go Go.Ab List Tryz
attribute [local simp] FzZ aC aF aG aH aO aa ab ae af ag ah aj an aq ar au az seq1
theorem yI:base.F.get 28=some f28:=by kernel_rfl
theorem RI:base.shared 28=false:=by kernel_rfl
theorem agL (x:Bool)(z:VN):fb TT 102 [(0,v2 x z.1),(1,.sc (.int .i64 (z.2:Int)))]=some (.agg (eC x z)):=by
 obtain⟨⟨a,b⟩,n⟩:=z
 unfold eC iv v2 eR
 dsimp only
 generalize ([a,b]:List Rat).flatMap rcs=cs
 generalize ([a,b]:List Rat).length=m
 generalize (n:Int)=z
 kernel_rfl
def hlC:Code:=f28.body.getD .skip
def hlT:Code:=aO (aO hlC)
def hlB:Code:=(az hlC).getD .skip
def hlU:Code:=aO (aO hlT)
def hlD:Code:=(az hlU).getD .skip
def hlX:Code:=blk (seq1 (aO (aO hlB)))
def hlY:Code:=blk (seq1 (aO (aO hlD)))
theorem VM:hlC = .seq (seq1 hlC) (.seq (seq1 (aO hlC)) (.seq (seq1 hlT) (.seq (.seq (seq1 (seq1 (aO hlT))) (.block 0 (.loop hlB))) (.seq (seq1 hlU) (.seq (.seq (seq1 (seq1 (aO hlU))) (.block 2 (.loop hlD))) (aO (aO hlU))))))):=rfl
theorem VO:hlB = .seq (seq1 hlB) (.seq (.cond (.tmp 19) .skip (.exit 0)) (.seq (.block 1 hlX) (aO (aO (aO hlB))))):=rfl
theorem VL:hlD = .seq (seq1 hlD) (.seq (.cond (.tmp 35) .skip (.exit 2)) (.seq (.block 3 hlY) (aO (aO (aO hlD))))):=rfl
section
variable (L:Lst) (run:av) (k:Nat) (fr:Ψ) (hp:Θ) (wr:Ω)
theorem aga (c:List (List ByteArray))(e:Nat)(g:aA L run 71 [cE c] (iv e)) :
  (e≠0→∃ st,ae (CC L) run k hlC ⟨entry 45 [cE c],[],[]⟩=some (.ret,st)∧aY TT st.fr st.hp f28.results.toList=some [.sc (.slice none 0 0),iv e]) ∧
  (e=0→∃ fr0 fr1 fr2,ae (CC L) run k (seq1 hlC) ⟨entry 45 [cE c],[],[]⟩=some (.normal,⟨fr0,[],[]⟩)∧ae (CC L) run k (seq1 (aO hlC)) ⟨fr0,[],[]⟩=some (.normal,⟨fr1,[],[]⟩)∧ae (CC L) run k (seq1 hlT) ⟨fr1,[],[]⟩=some (.normal,⟨fr2,[],[]⟩)∧fr2.length=45∧nth fr2 0=cE c∧nth fr2 5 = .sc (.slice none 0 0)):=by
 obtain⟨e1,e2⟩:=cV 44 (cE c)
 generalize entry 45 [cE c]=fr0 at *
 generalize cE c=C at *
 obtain⟨fr1,a1,a2,a3⟩:∃ fr1,ae (CC L) run k (seq1 hlC) ⟨fr0,[],[]⟩=some (.normal,⟨fr1,[],[]⟩)∧fr1.length=45∧nth fr1 0=C:=by
  simp[hlC,f28,e1,e2]
 unfold aA at g
 simp only[iv] at g
 constructor
 ·intro he
  have hb:(((e:Nat):Int) != 0)=true:=by simpa using he
  obtain⟨st,b1,b2⟩:∃ st,ae (CC L) run k (seq1 (aO hlC)) ⟨fr1,[],[]⟩=some (.ret,st)∧aY TT st.fr st.hp f28.results.toList=some [.sc (.slice none 0 0),iv e]:=by
   simp[iv,hlC,f28,aM,ba,aw,bg,a2,a3,g,hb,aY]
  exact⟨st,by rw[VM];exact (ao a1).trans (bK b1),b2⟩
 ·rintro rfl
  obtain⟨fr2,b1,b2,b3⟩:∃ fr2,ae (CC L) run k (seq1 (aO hlC)) ⟨fr1,[],[]⟩=some (.normal,⟨fr2,[],[]⟩)∧fr2.length=45∧nth fr2 0=C:=by
   simp[hlC,f28,aM,ba,aw,bg,a2,a3,g]
  refine⟨fr1,fr2,?_⟩
  simp only[a1,b1,true_and]
  simp[hlT,hlC,f28,b2,b3]
theorem akd (p:PV)(n:Nat)(hl:dc p=some n)(h0:fr.length=45)(h00:nth fr 0=p):∃ fr',ae (CC L) run k (seq1 (seq1 (aO hlT))) ⟨fr,hp,wr⟩=some (.normal,⟨fr',hp,wr⟩)∧nth fr' 16=p∧nth fr' 17=iv n∧nth fr' 18=iv 0:=by
 simp[iv,hlT,hlC,f28,bM,bf,h0,h00,hl,uCl]
theorem ai7 (i n:Nat)(h0:fr.length=45)(h17:nth fr 17=iv n)(h18:nth fr 18=iv i):∃ fr',ae (CC L) run k (seq1 hlB) ⟨fr,hp,wr⟩=some (.normal,⟨fr',hp,wr⟩)∧nth fr' 19 = .sc (.bool (decide (i<n))):=by
 obtain⟨u,hu⟩:∃ u,decide (i<n)=u:=⟨_,rfl⟩
 rw[hu]
 simp only[iv] at h17 h18
 cases u <;> simp only[decide_eq_true_eq,decide_eq_false_iff_not] at hu <;> simp[hlB,hlC,f28,ba,aw,bg,h0,h17,h18,hu]
theorem akc (i:Nat)(h9:i<1000)(h0:fr.length=45)(h18:nth fr 18=iv i):∃ fr',ae (CC L) run k (aO (aO (aO hlB))) ⟨fr,hp,wr⟩=some (.normal,⟨fr',hp,wr⟩)∧nth fr' 18=iv (i+1):=by
 have hw:=bE i (by omega)
 simp only[iv] at h18
 simp[iv,hlB,hlC,f28,ba,aw,bg,h0,h18,hw]
theorem ajb (h0:fr.length=45):∃ fr',ae (CC L) run k (seq1 hlU) ⟨fr,hp,wr⟩=some (.normal,⟨fr',hp,wr⟩)∧nth fr' 8 = .sc (.slice none 0 0):=by
 simp[hlU,hlT,hlC,f28,h0]
theorem aja (p r:PV)(n:Nat)(hp':Θ)(fp:FP)(hc:bS (CC L) run false hp 72 [p]=some (r,hp',fp))(hl:dc r=some n)(h0:fr.length=45)(h5:nth fr 5=p):∃ fr' wr',ae (CC L) run k (seq1 (seq1 (aO hlU))) ⟨fr,hp,wr⟩=some (.normal,⟨fr',hp',wr'⟩)∧nth fr' 32=r∧nth fr' 33=iv n∧nth fr' 34=iv 0:=by
 simp[iv,hlU,hlT,hlC,f28,aM,bM,bf,and_assoc,h0,h5,hc,hl,ko]
theorem adU (i n:Nat)(h0:fr.length=45)(h33:nth fr 33=iv n)(h34:nth fr 34=iv i):∃ fr',ae (CC L) run k (seq1 hlD) ⟨fr,hp,wr⟩=some (.normal,⟨fr',hp,wr⟩)∧nth fr' 35 = .sc (.bool (decide (i<n))):=by
 obtain⟨u,hu⟩:∃ u,decide (i<n)=u:=⟨_,rfl⟩
 rw[hu]
 simp only[iv] at h33 h34
 cases u <;> simp only[decide_eq_true_eq,decide_eq_false_iff_not] at hu <;> simp[hlD,hlU,hlT,hlC,f28,ba,aw,bg,h0,h33,h34,hu]
theorem ai9 (i:Nat)(h9:i<1000)(h0:fr.length=45)(h34:nth fr 34=iv i):∃ fr',ae (CC L) run k (aO (aO (aO hlD))) ⟨fr,hp,wr⟩=some (.normal,⟨fr',hp,wr⟩)∧nth fr' 34=iv (i+1):=by
 have hw:=bE i (by omega)
 simp only[iv] at h34
 simp[iv,hlD,hlU,hlT,hlC,f28,ba,aw,bg,h0,h34,hw]
theorem ai8 (q:PV)(h0:fr.length=45)(h8:nth fr 8=q):∃ st,ae (CC L) run k (aO (aO hlU)) ⟨fr,hp,wr⟩=some (.ret,st)∧st.hp=hp∧aY TT st.fr st.hp f28.results.toList=some [q,iv 0]:=by
 simp[iv,hlU,hlT,hlC,f28,h0,h8,aY]
end
def CrA (b:Nat)(hp:Θ)(l:List VN)(q:PV):Prop:=cH 2 (eC true) b hp l q∨∃ z,l=[z]∧q = .imm 1 true (eC true z)∧b≤hp.length
theorem CrA.app {b:Nat}{hp:Θ}{l:List VN}{q:PV}(h:CrA b hp l q)(z:VN)(h9:l.length<1000):∃ p' hp' fp,cU hp 2 q 1 (eC true z)=some (p',hp',fp)∧cH 2 (eC true) b hp' (l++[z]) p'∧(∀ i,i<b→aX hp' i=aX hp i)∧hp.length≤hp'.length:=by
 rcases h with h | ⟨y,rfl,rfl,hb⟩
 ·have:=h.app (Cd true) [z] (by simp) (by simp;omega)
  simpa using this
 ·refine⟨.own hp.length 2 0 2 false,bd hp (eC true y++eC true z),_,rfl,⟨by simp[bd];omega,.inr ⟨hp.length,[],false,hb,by simp[bd],rfl,nofun,?_⟩⟩,fun i hi => ?_,by simp[bd]⟩
  ·rw[bP,if_pos rfl];simp
  ·rw[bP,if_neg (by omega)]
theorem akb (L:Lst)(run:av)(k:Nat)(fr:Ψ)(hp:Θ)(wr:Ω)(b:Nat)(X:List P2)(i:Nat)(l:List VN)(q:PV)(hi:i<X.length)(h9:l.length<1000)(hO:CrA b hp l q)(g:aA L run 59 [q2 (at2 X i)] (v2 true (at2 X i)))(h0:fr.length=45)(h5:nth fr 5=q)(h16:nth fr 16=qP X)(h18:nth fr 18=iv i):∃ fr' hp' wr',ae (CC L) run k hlX ⟨fr,hp,wr⟩=some (.normal,⟨fr',hp',wr'⟩)∧cH 2 (eC true) b hp' (l++[(at2 X i,i)]) (nth fr' 5)∧(∀ j,j<b→aX hp' j=aX hp j):=by
 obtain⟨r,x1,x2⟩:=kd uCl X i hi
 obtain⟨p',hp',fp,a1,a2,a3,-⟩:=hO.app (at2 X i,i) h9
 have hbd:=agL true (at2 X i,i)
 have l1:=Li (at2 X i,i)
 have r1:=fun hp=>aeX hp (at2 X i,i)
 have k1:bj (eC true (at2 X i,i))=true:=rfl
 have i1:bT (eC true (at2 X i,i))=true:=rfl
 have zz:ef TT 102=some zC:=Gw
 have hz:zC.length=2:=rfl
 dsimp only at hbd
 generalize eC true (at2 X i,i)=cz at *
 unfold aA at g
 generalize v2 true (at2 X i)=V at *
 generalize q2 (at2 X i)=Q at *
 simp only[iv] at h18
 simp[hlX,blk,hlB,hlC,f28,aM,partOf,bf,and_assoc,h0,h5,h16,h18,x1,x2,g,hbd,l1,r1,k1,i1,zz,hz,a1,a2,ko,mU,aPt,sPt,agN,bZ,aV]
 exact a3
theorem aka (L:Lst)(run:av)(k:Nat)(fr:Ψ)(hp:Θ)(wr:Ω)(b oid:Nat)(x:Bool)(O:List VN)(M:Ψ)(l:List Int)(q:PV)(i:Nat)(hi:i<O.length)(h9:l.length<1000)(hO:cH 1 ei b hp l q)(hob:oid<b)(hb:aX hp oid=some ⟨.live,cells O M⟩)(h0:fr.length=45)(h8:nth fr 8=q)(h32:nth fr 32 = .own oid 2 0 O.length x)(h34:nth fr 34=iv i):∃ fr' hp' wr',ae (CC L) run k hlY ⟨fr,hp,wr⟩=some (.normal,⟨fr',hp',wr'⟩)∧cH 1 ei b hp' (l++[Int.ofNat O[i].2]) (nth fr' 8)∧(∀ j,j<b→aX hp' j=aX hp j):=by
 have q1:=ki O M i hi
 have x1:=rm oid O.length i x hi
 have a1:=al1 hp zC
 have o1:b9 zC 0 (eC true O[i])=some (eC true O[i]):=rfl
 have l1:(eC true O[i]).length=2:=rfl
 have k1:bj (eC true O[i])=true:=rfl
 have zz:ef TT 102=some zC:=Gw
 have n1:=al2 hp zC ⟨.live,eC true O[i]⟩
 have hG:=Hgr.abB hp zC ⟨.live,eC true O[i]⟩
 obtain⟨hp1,e1⟩:∃ h,cF (bd hp zC) hp.length ⟨.live,eC true O[i]⟩=h:=⟨_,rfl⟩
 rw[e1] at n1 hG
 have hO1:=cH.gr2 hO hG
 obtain⟨p',hp',fp,y1,y2,y3,-⟩:=hO1.app I8.toEl [Int.ofNat O[i].2] (by simp) (by simp;omega)
 have hbl:=hO.1
 have e2:[Int.ofNat O[i].2].flatMap ei=[iv O[i].2]:=rfl
 rw[e2,show [Int.ofNat O[i].2].length=1 from rfl] at y1
 have hlit:=kH O[i].2
 have hrd:∀ hp v,eY hp 1 (.imm 1 true [v])=some (1,[v],[]):=aeY
 have hd:(bz (eC true O[i]) 1).head?=some (iv O[i].2):=rfl
 have hok:dZ (iv O[i].2)=true:=rfl
 have hid:(iv O[i].2).cG=true:=rfl
 generalize iv O[i].2=N at *
 generalize eC true O[i]=ci at *
 generalize Int.ofNat O[i].2=Z at *
 simp only[iv] at h34
 simp[hlY,blk,hlD,hlU,hlT,hlC,f28,partOf,bf,and_assoc,bp,bj,h0,h8,h32,h34,x1,hb,q1,a1,o1,l1,k1,zz,e1,n1,y1,y2,hlit,hrd,hd,hok,hid,fa1,mZ,bI,zI,y6,mU,aI,sI,bZ,bT,aV]
 exact fun j hj=>(y3 j hj).trans (hG.2 j (by omega))
theorem ai6 {L:Lst}{run:av}{k:Nat}(X:List P2)(hX:X.length<900)(hk:X.length<k)(g:∀ i,i<X.length→aA L run 59 [q2 (at2 X i)] (v2 true (at2 X i)))(fr:Ψ)(wr:Ω)(h0:fr.length=45)(h5:nth fr 5 = .sc (.slice none 0 0))(h16:nth fr 16=qP X)(h17:nth fr 17=iv X.length)(h18:nth fr 18=iv 0) :
  ∃ st,ae (CC L) run k (.block 0 (.loop hlB)) ⟨fr,[],wr⟩=some (.normal,st)∧cH 2 (eC true) 0 st.hp X.zipIdx (nth st.fr 5)∧(X=[]→nth st.fr 5 = .sc (.slice none 0 0)):=by
 have zt:∀ i,i<X.length→X.zipIdx.take (i+1)=X.zipIdx.take i++[(at2 X i,i)]:=fun i hi=>by
  rw[take_succ_eq_append_getElem (by simpa using hi),getElem_zipIdx,gH hi,Nat.zero_add]
 obtain⟨st,a1,a2⟩:=lK (C:=CC L) (run:=run) (k:=k) (e:=0) (b:=hlB) (n:=X.length) (st:=⟨fr,[],wr⟩)
  (Inv:=fun i st=>dX (df hlB) fr st.fr∧nth st.fr 18=iv i∧cH 2 (eC true) 0 st.hp (X.zipIdx.take i) (nth st.fr 5)∧(i=0→nth st.fr 5 = .sc (.slice none 0 0)))
  (Q:=fun st=>cH 2 (eC true) 0 st.hp X.zipIdx (nth st.fr 5)∧(X=[]→nth st.fr 5 = .sc (.slice none 0 0))) hk
  (fun i st hi ⟨iK,i18,iO,iZ⟩=>by
   obtain⟨fr0,hp0,wr0⟩:=st
   dsimp only at iK i18 iO iZ
   have l0:=iK.len h0
   obtain⟨fr1,b1,b2⟩:=ai7 L run k fr0 hp0 wr0 i X.length l0 (iK.at h17) i18
   rw[decide_eq_true hi] at b2
   have K1:=aP _ b1
   have e5:nth fr1 5=nth fr0 5:=K1.at rfl
   rw[← e5] at iO
   obtain⟨fr2,hp2,wr2,c1,c2,-⟩:=akb L run k fr1 hp0 wr0 0 X i _ _ hi (by rw[length_take];omega) (.inl iO) (g i hi) (K1.len l0) rfl (K1.at (iK.at h16)) (K1.at i18)
   have K2:=aP _ c1
   have c1':ae (CC L) run k (.block 1 hlX) ⟨fr1,hp0,wr0⟩=some (.normal,⟨fr2,hp2,wr2⟩):=by simp only[ae,c1]
   obtain⟨fr3,d1,d2⟩:=akc L run k fr2 hp2 wr2 i (by omega) (K2.len (K1.len l0)) (K2.at (K1.at i18))
   have K3:=aP _ d1
   have x3:ae (CC L) run k (.cond (.tmp 19) .skip (.exit 0)) ⟨fr1,hp0,wr0⟩=some (.normal,⟨fr1,hp0,wr0⟩):=by simp[b2]
   have hr:ae (CC L) run k hlB ⟨fr0,hp0,wr0⟩=some (.normal,⟨fr3,hp2,wr2⟩):=by
    rw[VO,ao b1,ao x3,ao c1',d1]
   exact⟨_,hr,iK.trans (aP _ hr),d2,by
    show cH 2 (eC true) 0 hp2 _ (nth fr3 5)
    rw[zt i hi,K3.at rfl];exact c2,fun h=>by omega⟩)
  (fun st ⟨iK,i18,iO,iZ⟩=>by
   obtain⟨fr0,hp0,wr0⟩:=st
   dsimp only at iK i18 iO iZ
   obtain⟨fr1,b1,b2⟩:=ai7 L run k fr0 hp0 wr0 X.length X.length (iK.len h0) (iK.at h17) i18
   rw[decide_eq_false (by omega)] at b2
   have K1:=aP _ b1
   refine⟨⟨fr1,hp0,wr0⟩,?_,?_,fun h=>(K1.at rfl:nth fr1 5=nth fr0 5).trans (iZ (by rw[h];rfl))⟩
   ·have x3:ae (CC L) run k (.cond (.tmp 19) .skip (.exit 0)) ⟨fr1,hp0,wr0⟩=some (.exit 0,⟨fr1,hp0,wr0⟩):=by simp[b2]
    rw[VO,ao b1,ae,x3]
   ·rw[take_of_length_le (by simp)] at iO
    show cH 2 (eC true) 0 hp0 _ (nth fr1 5)
    rw[K1.at rfl]
    exact iO)
  ⟨dX.refl _ _,h18,by
   show cH 2 (eC true) 0 [] [] (nth fr 5)
   rw[h5];exact cH.nil (Nat.le_refl _),fun _=>h5⟩
 exact⟨st,a1,a2⟩
theorem ai5 {L:Lst}{run:av}{k:Nat}(O:List VN)(hO:O.length<900)(hk:O.length<k)(r:PV)(hp:Θ)(hC:CrO hp O r)(fr:Ψ)(wr:Ω)(h0:fr.length=45)(h8:nth fr 8 = .sc (.slice none 0 0))(h32:nth fr 32=r)(h33:nth fr 33=iv O.length)(h34:nth fr 34=iv 0) :
  ∃ st,ae (CC L) run k (.block 2 (.loop hlD)) ⟨fr,hp,wr⟩=some (.normal,st)∧cH 1 ei hp.length st.hp (O.map fun y=>Int.ofNat y.2) (nth st.fr 8)∧st.fr.length=45:=by
 obtain⟨st,a1,a2⟩:=lK (C:=CC L) (run:=run) (k:=k) (e:=2) (b:=hlD) (n:=O.length) (st:=⟨fr,hp,wr⟩)
  (Inv:=fun i st=>dX (df hlD) fr st.fr∧nth st.fr 34=iv i∧cH 1 ei hp.length st.hp ((O.take i).map fun y=>Int.ofNat y.2) (nth st.fr 8)∧∀ j,j<hp.length→aX st.hp j=aX hp j)
  (Q:=fun st=>cH 1 ei hp.length st.hp (O.map fun y=>Int.ofNat y.2) (nth st.fr 8)∧st.fr.length=45) hk
  (fun i st hi ⟨iK,i34,iO,iH⟩=>by
   obtain⟨fr0,hp0,wr0⟩:=st
   dsimp only at iK i34 iO iH
   have l0:=iK.len h0
   obtain⟨fr1,b1,b2⟩:=adU L run k fr0 hp0 wr0 i O.length l0 (iK.at h33) i34
   rw[decide_eq_true hi] at b2
   have K1:=aP _ b1
   have e8:nth fr1 8=nth fr0 8:=K1.at rfl
   rw[← e8] at iO
   obtain⟨oid,M,x,rfl,hb⟩:∃ oid M x,r = .own oid 2 0 O.length x∧aX hp oid=some ⟨.live,cells O M⟩:=by
    rcases hC with ⟨rfl,-⟩| h
    ·simp at hi
    ·exact h
   have hol:=gp hb
   obtain⟨fr2,hp2,wr2,c1,c2,c3⟩:=aka L run k fr1 hp0 wr0 hp.length oid x O M _ _ i hi (by simp;omega) iO hol ((iH oid hol).trans hb) (K1.len l0) rfl (K1.at (iK.at h32)) (K1.at i34)
   have K2:=aP _ c1
   have c1':ae (CC L) run k (.block 3 hlY) ⟨fr1,hp0,wr0⟩=some (.normal,⟨fr2,hp2,wr2⟩):=by simp only[ae,c1]
   obtain⟨fr3,d1,d2⟩:=ai9 L run k fr2 hp2 wr2 i (by omega) (K2.len (K1.len l0)) (K2.at (K1.at i34))
   have K3:=aP _ d1
   have x3:ae (CC L) run k (.cond (.tmp 35) .skip (.exit 2)) ⟨fr1,hp0,wr0⟩=some (.normal,⟨fr1,hp0,wr0⟩):=by simp[b2]
   have hr:ae (CC L) run k hlD ⟨fr0,hp0,wr0⟩=some (.normal,⟨fr3,hp2,wr2⟩):=by
    rw[VL,ao b1,ao x3,ao c1',d1]
   exact⟨_,hr,iK.trans (aP _ hr),d2,by
    show cH 1 ei hp.length hp2 _ (nth fr3 8)
    rw[take_succ_eq_append_getElem hi,map_append,K3.at rfl];exact c2,fun j hj=>(c3 j hj).trans (iH j hj)⟩)
  (fun st ⟨iK,i34,iO,iH⟩=>by
   obtain⟨fr0,hp0,wr0⟩:=st
   dsimp only at iK i34 iO iH
   obtain⟨fr1,b1,b2⟩:=adU L run k fr0 hp0 wr0 O.length O.length (iK.len h0) (iK.at h33) i34
   rw[decide_eq_false (by omega)] at b2
   have K1:=aP _ b1
   refine⟨⟨fr1,hp0,wr0⟩,?_,?_,K1.len (iK.len h0)⟩
   ·have x3:ae (CC L) run k (.cond (.tmp 35) .skip (.exit 2)) ⟨fr1,hp0,wr0⟩=some (.exit 2,⟨fr1,hp0,wr0⟩):=by simp[b2]
    rw[VL,ao b1,ae,x3]
   ·rw[take_length] at iO
    show cH 1 ei hp.length hp0 _ (nth fr1 8)
    rw[K1.at rfl]
    exact iO)
  ⟨dX.refl _ _,h34,by
   show cH 1 ei hp.length hp [] (nth fr 8)
   rw[h8];exact cH.nil (Nat.le_refl _),fun _ _=>rfl⟩
 exact⟨st,a1,a2⟩
theorem xy (l:List VN):(j8 l).length≤2*l.length:=by
 unfold j8 Ls
 split
 ·omega
 ·have h1:=jX l []
  have h2:=jX l.reverse []
  simp only[length_append,length_reverse,length_tail,length_nil] at *
  omega
def lH (c:List (List ByteArray)):Ω:=bif decide (eL c=0) then AH (toP c) else []
def aiz (c:List (List ByteArray)):Prop:=Cv c∧(eL c=0→c.length≤11)
def E8:Ψ→Option Ψ:=ctr (fun c=>[cE c]) aiz fun c=>[aN (lH c),iv (eL c)]
def LZw:Lst:=[(71,uw),(59,BR),(124,XI),(159,A7),(129,lv),(130,aaF)]
theorem agS:dt base.P LZw:=⟨AO,xh,F3,A6,jW,Ed,trivial⟩
theorem Um {X:List P2}(h:∀ i,i<X.length→Rb2 61 (at2 X i))(h9:X.length<1000):∀ z ∈ X.zipIdx,okV z:=fun z hz=>by
 have h1:=jJ.1 hz
 have hl:z.2<X.length:=by
  rcases Nat.lt_or_ge z.2 X.length with h | h
  ·exact h
  ·rw[getElem?_eq_none h] at h1;cases h1
 have h2:=h z.2 hl
 rw[gH hl] at h2
 rw[List.getElem?_eq_getElem hl] at h1
 rw[Option.some.inj h1] at h2
 exact⟨⟨h2.1.mono (by omega),h2.2.mono (by omega)⟩,by omega⟩
theorem ain {b:Nat}{hp:Θ}{l:List Int}{p:PV}(h:cH 1 ei b hp l p)(e:PV)(he:∀ hp d,snap hp (d+1) e=some (e,[]))(hw:Wk e e):∃ rs ids,bu (snap hp bn) [p,e]=some (rs,ids)∧WkL rs [aE l,e]:=by
 obtain⟨q,ids,h1,h2,-⟩:=h.snap I8
 refine⟨[q,e],ids++([]++[]),?_,h2,hw,trivial⟩
 simp only[bn,bu,h1 10,he]
theorem Io:Ab.Spec base.P 28 E8:=Ab.Spec.bL (C:=CC LZw) (cP agS) fun args rs h=>by
 obtain⟨c,⟨hF,hc⟩,rfl,rfl⟩:=cX h
 obtain⟨hp1,hp2⟩:=aga LZw (runK (CC LZw) 34) 34 c (eL c) (JI rfl _ c hF.fit)
 by_cases he:eL c=0
 ·obtain⟨x1,x2,x3,x4,x5,x6⟩:=nW he hF
  obtain⟨fr0,fr1,fr2,a1,a2,a3,a4,a5,a6⟩:=hp2 he
  have hc:=hc he
  have hXl:(toP c).length≤11:=by omega
  rw[x1] at a5
  obtain⟨fr3,b1,b2,b3,b4⟩:=akd LZw (runK (CC LZw) 34) 34 fr2 [] [] _ _ (B0 (toP c)) a4 a5
  have K3:=aP _ b1
  obtain⟨⟨fr4,hp4,wr4⟩,c1,c2,c3⟩:=ai6 (L:=LZw) (run:=runK (CC LZw) 34) (k:=34) (toP c) (by omega) (by omega) (fun i hi=>Ct rfl _ _ (BF (by
   have:=x2 i hi
   exact⟨this.1.mono (by omega),this.2.mono (by omega)⟩)) (by simp)) fr3 [] (K3.len a4) (K3.at a6) b2 b3 b4
  dsimp only at c2 c3
  have K4:=aP _ c1
  have l4:=K4.len (K3.len a4)
  obtain⟨fr5,d1,d2⟩:=ajb LZw (runK (CC LZw) 34) 34 fr4 hp4 wr4 l4
  have K5:=aP _ d1
  have hzl:(toP c).zipIdx.length=(toP c).length:=by simp
  obtain⟨id,hE⟩:∃ id,(toP c).zipIdx=[]∧nth fr4 5 = .sc (.slice none 0 0)∨(toP c).zipIdx≠[]∧∃ x rest,nth fr4 5 = .own id 2 0 (toP c).zipIdx.length x∧aX hp4 id=some ⟨.live,cells (toP c).zipIdx rest⟩:=by
   by_cases hne:(toP c).zipIdx=[]
   ·exact⟨0,.inl ⟨hne,c3 (length_eq_zero_iff.1 (by rw[← hzl,hne];rfl))⟩⟩
   ·obtain⟨oid,M,x,h1,h2⟩:=BT c2 hne
    exact⟨oid,.inr ⟨hne,x,M,h1,h2⟩⟩
  obtain⟨hp5,r,fp,S,m1,m2,m3,m4,-⟩:=Ue (L:=LZw) (k:=30) (ok:=okV) (bI:=oe) (tI:=fun a b z=>fk a.1 b.1 z.1) (adX rfl _) rfl (ajf rfl 29 (by omega)) (ahG rfl _) (toP c).zipIdx (by omega) (by omega) (nth fr4 5) hp4 id hE (Um x2 (by omega)) false
  have e5:nth fr5 5=nth fr4 5:=K5.at rfl
  obtain⟨fr6,wr6,n1,n2,n3,n4⟩:=aja LZw (runK (CC LZw) 34) 34 fr5 hp4 wr4 _ r _ hp5 fp m1 m4.len (K5.len l4) e5
  have K6:=aP _ n1
  have l6:=K6.len (K5.len l4)
  have hOl:(j8 (ddp none S)).length≤22:=by
   have h1:=xy (ddp none S)
   have h2:=vI none S
   have h3:=m2.length_eq
   omega
  obtain⟨⟨fr7,hp7,wr7⟩,o1,o2,o3⟩:=ai5 (L:=LZw) (run:=runK (CC LZw) 34) (k:=34) _ (by omega) (by omega) r hp5 m4 fr6 wr6 l6 (K6.at d2) n2 n3 n4
  dsimp only at o2 o3
  obtain⟨st,q1,q2',q3⟩:=ai8 LZw (runK (CC LZw) 34) 34 fr7 hp7 wr7 _ o3 rfl
  have s1:ae (CC LZw) (runK (CC LZw) 34) 34 (.seq (seq1 (seq1 (aO hlT))) (.block 0 (.loop hlB))) ⟨fr2,[],[]⟩=some (.normal,⟨fr4,hp4,wr4⟩):=by rw[ao b1];exact c1
  have s2:ae (CC LZw) (runK (CC LZw) 34) 34 (.seq (seq1 (seq1 (aO hlU))) (.block 2 (.loop hlD))) ⟨fr5,hp4,wr4⟩=some (.normal,⟨fr7,hp7,wr7⟩):=by rw[ao n1];exact o1
  have hx:ae (CC LZw) (runK (CC LZw) 34) 34 hlC ⟨entry 45 [cE c],[],[]⟩=some (.ret,st):=by
   rw[VM,ao a1,ao a2,ao a3,ao s1,ao d1,ao s2];exact q1
  have hm:((j8 (ddp none S)).map fun y=>Int.ofNat y.2)=(lH c).map Int.ofNat:=by
   unfold lH
   rw[decide_eq_true he,cond_true,← O0 m2 m3,map_map];rfl
  rw[hm] at o2
  obtain⟨rs,ids,t1,t2⟩:=ain o2 (iv 0) (fun _ _=>rfl) (Wk.refl rfl)
  refine⟨_,_,_,_,rs,ids,aZ yI rfl hx q3,by rw[q2'];exact t1,?_⟩
  rw[he];exact t2
 ·obtain⟨st,b1,b2⟩:=hp1 he
  refine⟨_,_,_,_,[.sc (.slice none 0 0),iv (eL c)],[],aZ yI rfl b1 b2,rfl,?_⟩
  have:lH c=[]:=by unfold lH;rw[decide_eq_false he];rfl
  rw[this]
  exact⟨Wk.nil false,Wk.refl rfl,trivial⟩
theorem sf:base.F.get 29=some f29:=by kernel_rfl
theorem Ha:base.shared 29=false:=by kernel_rfl
def WN:Code→Code
 | .cond _ _ b=>b
 | c=>c
def rhC:Code:=f29.body.getD .skip
def rhA:Code:=(az rhC).getD .skip
def lY:Code:=cI rhA
def wA:Code:=aO (aO lY)
def rhB:Code:=(az lY).getD .skip
def sH:Code:=cI rhB
def rhT:Code:=aO (aO (aO rhC))
def rhU:Code:=aO (aO (aO (aO rhT)))
def rhG:Code:=(az (seq1 rhU)).getD .skip
def kS:Code:=cI rhG
def rhW:Code:=(az (seq1 (aO rhU))).getD .skip
def mV:Code:=blk (aO rhW)
def Hr:Code:=aO (aO mV)
def rhV:Code:=(az mV).getD .skip
def uT:Code:=cI rhV
theorem Sq:rhC = .seq (seq1 rhC) (.seq (seq1 (aO rhC)) (.seq (seq1 (aO (aO rhC))) (.seq (seq1 rhT) (.seq (.seq (seq1 (seq1 (aO rhT))) (.block 0 (.loop rhA))) (.seq (seq1 (aO (aO rhT))) (.seq (seq1 (aO (aO (aO rhT)))) (.seq (.seq (seq1 (seq1 rhU)) (.block 4 (.loop rhG))) (.seq (.block 6 (.loop rhW)) (aO (aO rhU)))))))))):=rfl
theorem Z0:lY = .seq (seq1 lY) (.seq (seq1 (aO lY)) (.seq (.seq (seq1 (seq1 wA)) (.block 2 (.loop rhB))) (.seq (seq1 (aO wA)) (.cond (.tmp 64) (ik (aO (aO wA))) .skip)))):=rfl
theorem ZZ:sH = .seq (seq1 sH) (.cond (.tmp 44) (ik (aO sH)) (.seq (seq1 (WN (aO sH))) (.cond (.tmp 54) (ik (aO (WN (aO sH)))) .skip))):=rfl
theorem Sp:rhW = .seq (.seq (seq1 (seq1 rhW)) (.cond (.tmp 117) .skip (.exit 6))) (.block 7 mV):=rfl
theorem ZY:mV = .seq (seq1 mV) (.seq (seq1 (aO mV)) (.seq (.seq (seq1 (seq1 Hr)) (.block 8 (.loop rhV))) (aO Hr))):=rfl
theorem KL:kS = .seq (seq1 kS) (.seq (seq1 (aO kS)) (.seq (seq1 (aO (aO kS))) (.cond (.tmp 111) (ik (aO (aO (aO kS)))) .skip))):=rfl
theorem KK:uT = .seq (seq1 uT) (.cond (.tmp 164) (ik (aO uT)) .skip):=rfl
section
variable (L:Lst) (run:av) (k:Nat) (fr:Ψ) (hp:Θ) (wr:Ω)
theorem aif (X:List P2)(i j:Nat)(hi:i<X.length)(hj:j<X.length)(hL:bC L 74=fun a=>Hl (aK a))(h0:fr.length=168)(h00:nth fr 0=qP X)(h6:nth fr 6=iv i)(h9:nth fr 9=iv j):∃ fr' wr',ae (CC L) run k (seq1 sH) ⟨fr,hp,wr⟩=some (.normal,⟨fr',hp,wr'⟩)∧nth fr' 44 = .sc (.bool !decide (at2 X i=at2 X j)):=by
 obtain⟨r1,x1,x2⟩:=kd uCl X i hi
 obtain⟨r2,y1,y2⟩:=kd uCl X j hj
 have g:=ajE hL run (at2 X i) (at2 X j)
 unfold aA at g
 generalize decide (at2 X i=at2 X j)=u at *
 generalize q2 (at2 X i)=Qi at *
 generalize q2 (at2 X j)=Qj at *
 simp only[iv] at h6 h9
 simp[sH,rhB,lY,rhA,rhC,f29,cI,aM,partOf,unP,bf,and_assoc,h0,h00,h6,h9,x1,x2,y1,y2,g,aPt,sPt,aV,number,FP.free]
theorem aie (c l:List (List ByteArray))(b j:Nat)(hj:j<c.length)(h9':l.length≤1000)(hO:cH 1 ep b hp l (nth fr 7))(h0:fr.length=168)(h00:nth fr 0=cE c)(h9:nth fr 9=iv j):∃ fr' hp' wr',ae (CC L) run k (ik (aO sH)) ⟨fr,hp,wr⟩=some (.normal,⟨fr',hp',wr'⟩)∧cH 1 ep b hp' (l++[c[j]]) (nth fr' 7)∧∀ i,i<b→aX hp' i=aX hp i:=by
 obtain⟨r1,x1,x2⟩:=kG uCl c j hj
 obtain⟨p',hp',fp,a1,a2,a3,-⟩:=hO.app I7.toEl [c[j]] (by simp) (by simp;omega)
 generalize c[j]=v at *
 rw[show [v].flatMap ep=[pE v] from rfl,show [v].length=1 from rfl] at a1
 have hid:bT [pE v]=true:=rfl
 have hlit:fP TT 22 1 [(0,pE v)]=some (1,[pE v]):=by simp[fP,yK,sPt,zPt,rep,dJ,b9,show (pE v).cells?=some [pE v] from rfl]
 have hrd:∀ hp,eY hp 1 (.imm 1 true [pE v])=some (1,[pE v],[]):=fun hp=>adH hp _
 have hok:dZ (pE v)=true:=rfl
 simp only[iv] at h9
 generalize pE v=V at *
 simp[sH,rhB,lY,rhA,rhC,f29,cI,ik,partOf,bf,and_assoc,bj,h0,h00,h9,x1,x2,hid,hlit,hrd,hok,a1,a2,yK,aPt,sPt,zPt,bPt,bZ,aV]
 exact a3
theorem aid (i j:Nat)(h0:fr.length=168)(h6:nth fr 6=iv i)(h9:nth fr 9=iv j):∃ fr',ae (CC L) run k (.seq (seq1 (WN (aO sH))) (.cond (.tmp 54) (ik (aO (WN (aO sH)))) .skip)) ⟨fr,hp,wr⟩=some (.normal,⟨fr',hp,wr⟩)∧nth fr' 8=(if j<i then .sc (.bool false) else nth fr 8):=by
 obtain⟨u,hu⟩:∃ u,decide (j<i)=u:=⟨_,rfl⟩
 simp only[iv] at h6 h9
 cases u <;> simp only[decide_eq_true_eq,decide_eq_false_iff_not] at hu <;> simp[sH,rhB,lY,rhA,rhC,f29,cI,ik,WN,ba,aw,bg,h0,h6,h9,hu]
theorem ajV (h0:fr.length=168):∃ fr',ae (CC L) run k (seq1 lY) ⟨fr,hp,wr⟩=some (.normal,⟨fr',hp,wr⟩)∧nth fr' 7 = .sc (.slice none 0 0):=by
 simp[lY,rhA,rhC,f29,cI,h0]
theorem ajU (h0:fr.length=168):∃ fr',ae (CC L) run k (seq1 (aO lY)) ⟨fr,hp,wr⟩=some (.normal,⟨fr',hp,wr⟩)∧nth fr' 8 = .sc (.bool true):=by
 simp[lY,rhA,rhC,f29,cI,h0]
theorem aij (h0:fr.length=168):∃ fr',ae (CC L) run k (seq1 (seq1 wA)) ⟨fr,hp,wr⟩=some (.normal,⟨fr',hp,wr⟩)∧nth fr' 9=iv 0:=by
 simp[iv,wA,lY,rhA,rhC,f29,cI,h0]
theorem aii (X:List P2)(i:Nat)(hi:i<X.length)(u v:Bool)(fp:FP)(hc:bS (CC L) run false hp 75 [nth fr 7,q2 (at2 X i)]=some (.sc (.bool v),hp,fp))(h0:fr.length=168)(h00:nth fr 0=qP X)(h6:nth fr 6=iv i)(h8:nth fr 8 = .sc (.bool u)):∃ fr' wr',ae (CC L) run k (seq1 (aO wA)) ⟨fr,hp,wr⟩=some (.normal,⟨fr',hp,wr'⟩)∧nth fr' 64 = .sc (.bool (u && !v)):=by
 obtain⟨r1,x1,x2⟩:=kd uCl X i hi
 generalize q2 (at2 X i)=Qi at *
 simp only[iv] at h6
 cases u <;> simp[wA,lY,rhA,rhC,f29,cI,aM,partOf,unP,bf,and_assoc,h0,h00,h6,h8,x1,x2,hc,aPt,sPt,aV,undef]
theorem aih (b i:Nat)(l:List Int)(h9:l.length<1000)(hO:cH 1 ei b hp l (nth fr 5))(h0:fr.length=168)(h6:nth fr 6=iv i):∃ fr' hp' wr',ae (CC L) run k (ik (aO (aO wA))) ⟨fr,hp,wr⟩=some (.normal,⟨fr',hp',wr'⟩)∧cH 1 ei b hp' (l++[Int.ofNat i]) (nth fr' 5):=by
 obtain⟨p',hp',fp,y1,y2,y3,-⟩:=hO.app I8.toEl [Int.ofNat i] (by simp) (by simp;omega)
 have e2:[Int.ofNat i].flatMap ei=[iv i]:=rfl
 rw[e2,show [Int.ofNat i].length=1 from rfl] at y1
 have hlit:=kH i
 have hrd:∀ hp v,eY hp 1 (.imm 1 true [v])=some (1,[v],[]):=aeY
 have hok:dZ (iv i)=true:=rfl
 have hid:(iv i).cG=true:=rfl
 generalize iv i=N at *
 generalize Int.ofNat i=Z at *
 simp[wA,lY,rhA,rhC,f29,cI,ik,bf,and_assoc,bj,h0,h6,y1,y2,hlit,hrd,hok,hid,mZ,bI,zI,sI,bZ,bT]
end
abbrev Pl:=List (List ByteArray)
def Pln (c:Pl):Prop:=∀ p ∈ c,p=[qb (fR p).1,qb (fR p).2]
theorem Pln.eq {c:Pl}(h:Pln c):cE c=qP (toP c):=by
 unfold qP qC toP
 rw[map_map,map_map]
 congr 1
 rw[eq_comm]
 conv=>rhs;rw[← map_id c]
 refine map_congr_left fun p hp' => ?_
 exact (h p hp').symm
theorem rW (c:Pl)(j:Nat)(hj:j<c.length):at2 (toP c) j=fR c[j]:=by
 rw[gH (by simpa [toP] using hj)];simp[toP]
def mW (c:Pl)(a:P2)(j:Nat):Pl:=(c.take j).filter fun p => !decide (a=fR p)
def xZ (X:List P2)(i j:Nat):Bool:=pB (∀ t,t<j→t<i→at2 X t≠at2 X i)
theorem Oe (c:Pl)(a:P2)(j:Nat)(hj:j<c.length):mW c a (j+1)=if a=fR c[j] then mW c a j else mW c a j++[c[j]]:=by
 unfold mW
 rw[take_succ_eq_append_getElem hj,filter_append]
 by_cases h:a=fR c[j] <;> simp[h]
theorem cH.low {α:Type}{s:Nat}{e:α→Ψ}{b b':Nat}{hp:Θ}{l:List α}{p:PV}(h:cH s e b hp l p)(hb:b'≤b):cH s e b' hp l p:=by
 obtain⟨h0,h⟩:=h
 refine⟨Nat.le_trans hb h0,?_⟩
 rcases h with h | ⟨id,m,x,h1,h2⟩
 ·exact .inl h
 ·exact .inr ⟨id,m,x,Nat.le_trans hb h1,h2⟩
theorem tf {X:List P2}{i j:Nat} : xZ X i j=true ↔ ∀ t,t<j→t<i→at2 X t≠at2 X i:=BS
section
variable {L:Lst} {run:av} {k:Nat}
theorem aab (hL:bC L 74=fun a=>Hl (aK a))(c:Pl)(hc:cE c=qP (toP c))(h9:c.length≤100)(hk:c.length<k)(i:Nat)(hi:i<c.length)(fr:Ψ)(hp:Θ)(wr:Ω)(h0:fr.length=168)(h00:nth fr 0=cE c)(h6:nth fr 6=iv i)(h7:nth fr 7 = .sc (.slice none 0 0))(h8:nth fr 8 = .sc (.bool true))(h9':nth fr 9=iv 0) :
  ∃ fr' hp' wr',ae (CC L) run k (.block 2 (.loop rhB)) ⟨fr,hp,wr⟩=some (.normal,⟨fr',hp',wr'⟩)∧dX (df rhB) fr fr'∧cH 1 ep hp.length hp' (mW c (at2 (toP c) i) c.length) (nth fr' 7)∧nth fr' 8 = .sc (.bool (xZ (toP c) i c.length))∧∀ j,j<hp.length→aX hp' j=aX hp j:=by
 have hXl:(toP c).length=c.length:=by simp[toP]
 obtain⟨fr',hp',wr',a1,a2,a3⟩:=Lp.go (C:=CC L) (run:=run) (k:=k) (l:=pf rhB) (body:=sH) (m:=168) (B:=rhB) rfl (by kernel_rfl) (by kernel_rfl) (by kernel_rfl) ⟨_,uCl⟩ (n:=c.length) (j0:=0) (by omega) (by omega) (by omega)
  (J:=fun j f hp'=>cH 1 ep hp.length hp' (mW c (at2 (toP c) i) j) (f 7)∧f 8 = .sc (.bool (xZ (toP c) i j))∧∀ j,j<hp.length→aX hp' j=aX hp j) (fr0:=fr) (hp0:=hp) (wr0:=wr) (p:=cE c) h0 h00 (fm c) h9'
  (fun j f g hp' hfg ⟨c1,c2,c3⟩=>⟨by rw[← hfg 7 (by kernel_rfl)];exact c1,by rw[← hfg 8 (by kernel_rfl)];exact c2,c3⟩)
  (fun j fr1 hp1 wr1 _ hj hK hij ⟨c1,c2,c3⟩=>by
   have l1:=hK.len h0
   have f0:=hK.at h00
   have f6:=hK.at h6
   obtain⟨fr2,wr2,b1,b2⟩:=aif L run k fr1 hp1 wr1 (toP c) i j (by omega) (by omega) hL l1 (by rw[f0,hc]) f6 hij
   have K2:=aP _ b1
   have l2:=K2.len l1
   rw[rW c j hj] at b2
   have e7:nth fr2 7=nth fr1 7:=K2.at rfl
   have e8:nth fr2 8=nth fr1 8:=K2.at rfl
   rw[show (pf rhB).e2=3 from rfl,ae,ZZ,ao b1,Oe c _ j hj]
   by_cases he:at2 (toP c) i=fR c[j]
   ·rw[decide_eq_true he] at b2
    rw[if_pos he]
    obtain⟨fr3,d1,d2⟩:=aid L run k fr2 hp1 wr2 i j l2 (K2.at f6) (K2.at hij)
    have K3:=aP _ d1
    refine⟨fr3,hp1,wr2,by simp only[ae,aj,b2,Bool.not_true] at d1 ⊢;rw[d1],?_,?_,c3⟩
    ·rw[K3.at e7];exact c1
    ·rw[d2,e8,c2]
     by_cases hji:j<i
     ·rw[if_pos hji]
      have:xZ (toP c) i (j+1)=false:=fT fun h=>h j (by omega) hji (by rw[rW c j hj];exact he.symm)
      rw[this]
     ·rw[if_neg hji]
      have:xZ (toP c) i (j+1)=xZ (toP c) i j:=Bool.eq_iff_iff.2 (by
       rw[tf,tf]
       exact⟨fun h t h1 h2=>h t (by omega) h2,fun h t h1 h2=>h t (by omega) h2⟩)
      rw[this]
   ·rw[decide_eq_false he] at b2
    rw[if_neg he]
    rw[← e7] at c1
    obtain⟨fr3,hp3,wr3,d1,d2,d3⟩:=aie L run k fr2 hp1 wr2 c _ hp.length j hj (by
     have:(mW c (at2 (toP c) i) j).length≤(c.take j).length:=length_filter_le _ _
     rw[length_take] at this
     omega) c1 l2 (K2.at f0) (K2.at hij)
    have K3:=aP _ d1
    refine⟨fr3,hp3,wr3,by simp only[ae,aj,b2,Bool.not_false];rw[d1],d2,?_,fun t ht=>(d3 t ht).trans (c3 t ht)⟩
    rw[K3.at e8,c2]
    have:xZ (toP c) i (j+1)=xZ (toP c) i j:=Bool.eq_iff_iff.2 (by
     rw[tf,tf]
     refine⟨fun h t h1 h2=>h t (by omega) h2,fun h t h1 h2 e => ?_⟩
     by_cases htj:t=j
     ·subst htj
      rw[rW c t hj] at e
      exact he e.symm
     ·exact h t (by omega) h2 e)
    rw[this])
  ⟨by rw[h7];exact cH.nil (Nat.le_refl _),by
   rw[h8]
   have:xZ (toP c) i 0=true:=tf.2 fun t h=>by omega
   rw[this],fun _ _=>rfl⟩
 exact⟨fr',hp',wr',a1,a2,a3⟩
theorem ac2 (c:Pl)(i:Nat)(hi:i<c.length):(xZ (toP c) i c.length && !nQ (toP (mW c (at2 (toP c) i) c.length)) (at2 (toP c) i))=true ↔ cnP (toP c) i:=by
 rw[Bool.and_eq_true,Bool.not_eq_true',tf,← Bool.not_eq_true,nQ,BS,xN]
 have e:∀ q,q ∈ toP (mW c (at2 (toP c) i) c.length) ↔ q ∈ toP c∧q≠at2 (toP c) i:=fun q=>by
  unfold toP mW
  rw[take_length,mem_map,mem_map]
  constructor
  ·rintro⟨p,hp,rfl⟩
   rw[mem_filter] at hp
   exact⟨⟨p,hp.1,rfl⟩,fun h=>by simp[] at hp h;exact hp.2 h.symm⟩
  ·rintro⟨⟨p,hp,rfl⟩,h⟩
   exact⟨p,mem_filter.2 ⟨hp,by simpa [toP] using fun h'=>h h'.symm⟩,rfl⟩
 unfold cnP
 constructor
 ·rintro⟨h1,h2⟩
  exact⟨fun j hj=>h1 j (by omega) hj,fun h=>h2 (h.mono fun q hq=>(e q).2 hq)⟩
 ·rintro⟨h1,h2⟩
  exact⟨fun j _ hj=>h1 j hj,fun h=>h2 (h.mono fun q hq=>(e q).1 hq)⟩
theorem WO (X:List P2)(i:Nat)(u:Bool)(hu:u=true ↔ cnP X i):cnL X (i+1)=bif u then cnL X i++[i] else cnL X i:=by
 classical
 unfold cnL
 rw[range_succ,filter_append]
 cases u with
 | true=>rw[cond_true];simp[hu.1 rfl]
 | false =>
  have : ¬ cnP X i:=fun h=>by cases hu.2 h
  rw[cond_false];simp[this]
theorem LV (X:List P2)(n:Nat):(cnL X n).length≤n:=by
 classical
 unfold cnL
 refine Nat.le_trans (length_filter_le _ _) ?_
 simp
theorem aad (hL:bC L 74=fun a=>Hl (aK a))(hI:bC L 75=fun a=>IY (aK a))(c:Pl)(hP:Pln c)(hsz:∀ p ∈ c,Rb2 1000 (fR p))(h9:c.length≤100)(hk:c.length<k)(i:Nat)(hi:i<c.length)(fr:Ψ)(hp:Θ)(wr:Ω)(hO:cH 1 ei 0 hp ((cnL (toP c) i).map Int.ofNat) (nth fr 5))(h0:fr.length=168)(h00:nth fr 0=cE c)(h6:nth fr 6=iv i) :
  ∃ fr' hp' wr',ae (CC L) run k (.block 1 lY) ⟨fr,hp,wr⟩=some (.normal,⟨fr',hp',wr'⟩)∧cH 1 ei 0 hp' ((cnL (toP c) (i+1)).map Int.ofNat) (nth fr' 5):=by
 have hc:=hP.eq
 have hXl:(toP c).length=c.length:=by simp[toP]
 obtain⟨fr1,a1,a2⟩:=ajV L run k fr hp wr h0
 have K1:=aP _ a1
 obtain⟨fr2,b1,b2⟩:=ajU L run k fr1 hp wr (K1.len h0)
 have K2:=aP _ b1
 obtain⟨fr3,c1,c2⟩:=aij L run k fr2 hp wr (K2.len (K1.len h0))
 have K3:=aP _ c1
 have l3:=K3.len (K2.len (K1.len h0))
 have f0:=K3.at (K2.at (K1.at h00))
 have f6:=K3.at (K2.at (K1.at h6))
 have f5:nth fr3 5=nth fr 5:=K3.at (K2.at (K1.at rfl))
 obtain⟨fr4,hp4,wr4,d1,K4,d2,d3,d4⟩:=aab (run:=run) (k:=k) hL c hc h9 hk i hi fr3 hp wr l3 f0 f6 (K3.at (K2.at a2)) (K3.at b2) c2
 have l4:=K4.len l3
 have g5:nth fr4 5=nth fr 5:=K4.at f5
 have g6:=K4.at f6
 have hsub:∀ p ∈ mW c (at2 (toP c) i) c.length,p ∈ c:=fun p hp=>by
  unfold mW at hp
  exact mem_of_mem_take (mem_filter.1 hp).1
 have hP':Pln (mW c (at2 (toP c) i) c.length):=fun p hp=>hP p (hsub p hp)
 have hol:(mW c (at2 (toP c) i) c.length).length≤c.length:=by
  have:(mW c (at2 (toP c) i) c.length).length≤(c.take c.length).length:=length_filter_le _ _
  rw[length_take] at this
  omega
 have hok:Oh (toP (mW c (at2 (toP c) i) c.length),at2 (toP c) i):=by
  refine⟨by show (List.map fR _).length≤100;rw[length_map];omega,fun j hj => ?_,by rw[rW c i hi];exact hsz _ (getElem_mem _)⟩
  have hj':j<(mW c (at2 (toP c) i) c.length).length:=by simpa [toP] using hj
  dsimp only
  rw[rW _ j hj']
  exact hsz _ (hsub _ (getElem_mem _))
 obtain⟨fp,e1⟩:=FM hI (cH.low d2 (b':=0) (Nat.zero_le _)) hP'.eq hok run false
 obtain⟨fr5,wr5,m1,m2⟩:=aii L run k fr4 hp4 wr4 (toP c) i (by omega) _ _ fp e1 l4 (by rw[K4.at f0,hc]) g6 d3
 have K5:=aP _ m1
 have hG:Hgr hp hp4:=⟨d2.1,d4⟩
 have hO4:=cH.gr2 hO hG
 rw[← g5] at hO4
 have e5:nth fr5 5=nth fr4 5:=K5.at rfl
 rw[← e5] at hO4
 have hs:ae (CC L) run k (.seq (seq1 (seq1 wA)) (.block 2 (.loop rhB))) ⟨fr2,hp,wr⟩=some (.normal,⟨fr4,hp4,wr4⟩):=by rw[ao c1];exact d1
 have hcn:=ac2 c i hi
 rw[WO _ _ _ hcn]
 generalize (xZ (toP c) i c.length && !nQ (toP (mW c (at2 (toP c) i) c.length)) (at2 (toP c) i))=u at *
 have hx:∀ {e:Ex} {st:St},ae (CC L) run k (.cond (.tmp 64) (ik (aO (aO wA))) .skip) ⟨fr5,hp4,wr5⟩=some (.normal,st)→ae (CC L) run k (.block 1 lY) ⟨fr,hp,wr⟩=some (.normal,st):=fun {_ st} h=>by
  have:ae (CC L) run k lY ⟨fr,hp,wr⟩=some (.normal,st):=by
   rw[Z0,ao a1,ao b1,ao hs,ao m1,h]
  simp only[ae,this]
 cases u with
 | true =>
  have hlen:=LV (toP c) i
  obtain⟨fr6,hp6,wr6,n1,n2⟩:=aih L run k fr5 hp4 wr5 0 i _ (by simp;omega) hO4 (K5.len l4) (K5.at g6)
  refine⟨fr6,hp6,wr6,hx (e:=.normal) (by simp only[ae,aj,m2];rw[n1]),?_⟩
  rw[cond_true,map_append];exact n2
 | false=>exact⟨fr5,hp4,wr5,hx (e:=.normal) (by simp[m2]),hO4⟩
theorem aac (hL:bC L 74=fun a=>Hl (aK a))(hI:bC L 75=fun a=>IY (aK a))(c:Pl)(hP:Pln c)(hsz:∀ p ∈ c,Rb2 1000 (fR p))(h9:c.length≤100)(hk:c.length<k)(fr:Ψ)(wr:Ω)(h0:fr.length=168)(h00:nth fr 0=cE c)(h5:nth fr 5 = .sc (.slice none 0 0))(h6:nth fr 6=iv 0) :
  ∃ fr' hp' wr',ae (CC L) run k (.block 0 (.loop rhA)) ⟨fr,[],wr⟩=some (.normal,⟨fr',hp',wr'⟩)∧dX (df rhA) fr fr'∧cH 1 ei 0 hp' ((cnL (toP c) c.length).map Int.ofNat) (nth fr' 5):=by
 exact Lp.go (C:=CC L) (run:=run) (k:=k) (l:=pf rhA) (body:=lY) (m:=168) (B:=rhA) rfl (by kernel_rfl) (by kernel_rfl) (by kernel_rfl) ⟨_,uCl⟩ (n:=c.length) (j0:=0) (by omega) (by omega) (by omega)
  (J:=fun j f hp'=>cH 1 ei 0 hp' ((cnL (toP c) j).map Int.ofNat) (f 5)) (fr0:=fr) (hp0:=[]) (wr0:=wr) (p:=cE c) h0 h00 (fm c) h6
  (fun j f g hp' hfg c1=>by rw[← hfg 5 (by kernel_rfl)];exact c1)
  (fun j fr1 hp1 wr1 _ hj hK hij c1=>aad hL hI c hP hsz h9 hk j hj fr1 hp1 wr1 c1 (hK.len h0) (hK.at h00) hij)
  (by rw[h5];exact cH.nil (Nat.le_refl _))
end
end Go.Proofs.YtjdmodeenbdfpaaGreat
end
