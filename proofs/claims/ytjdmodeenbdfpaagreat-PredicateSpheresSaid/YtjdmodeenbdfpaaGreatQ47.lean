/- Contracts of the law and of what it calls, and facts about determinants, part 47 of the proof; each lemma states its own conditions. -/
import Derived.Test.YtjdmodeenbdfpaaGreatQ45
import Derived.Test.YtjdmodeenbdfpaaGreatQ46
import Derived.Test.YtjdmodeenbdfpaaGreatQ43
set_option linter.unusedSimpArgs false
set_option linter.unusedVariables false
namespace Go.Proofs.YtjdmodeenbdfpaaGreat
open Go Go.Ab
theorem Pc:base.shared 12=false:=by kernel_rfl
theorem aai {L:Lst}(hL:bu L 12=fun a=>Jx [] (aJ a))(run:aq):ar L run 12 [] (.sc (.bool true)):=fun dr hp =>
 bp Pc hL run dr hp _ [.sc (.bool true)] rfl rfl rfl
def e1n (n:Nat):List PV:=[iv n]
theorem afw:Ec 1 e1n where
 len:=fun _=>rfl
 okc:=fun _=>rfl
 can:=fun _=>rfl
 idf:=fun _=>rfl
 sn:=fun _ _ _=>rfl
theorem Zv (l:List Nat):fJ e1n l=aN l:=by
 unfold aN aE fJ
 rw[List.length_map]
 congr 1
 induction l with
 | nil=>rfl
 | cons a l ih=>rw[List.map_cons,List.flatMap_cons,List.flatMap_cons,ih];rfl
theorem wq (P:List Rat):dQ (qL P)=some P.length:=by simp[qL,pE,fJ,dQ]
theorem acM (X:List (List Rat)):dQ (qC X)=some X.length:=by simp[qC,cE,fJ,dQ]
theorem gW:base.F.get 6=some Tryz.f6:=by kernel_rfl
noncomputable def pqC:Code:=Tryz.f6.body.getD .skip
theorem ae7 (m:Nat):((m:Int) > 2)=(2<m):=by apply propext;omega
theorem RI (L:Lst)(run:aq)(k:Nat)(c:List (List ByteArray))(i j q:PV)(lg:Bool)(e:Nat)(h:lg=true∨e≠0∨c.length=0)(g1:ar L run 11 [cE c] (.sc (.bool lg)))(g2:lg=false→ar L run 22 [cE c] (iv e))(g3:ar L run 12 [] (.sc (.bool true))) :
  ∃ st,af (CC L) run k pqC ⟨entry 158 [cE c,i,j,q],[],[]⟩=some (.ret,st)∧aV TT st.fr st.hp Tryz.f6.results.toList=some [.sc (.bool true)]:=by
 obtain⟨e0,e1,e2,e3,e4⟩:=wP 154 (cE c) i j q
 generalize entry 158 [cE c,i,j,q]=fr0 at *
 have hl:=fV c
 unfold ar at g1 g2 g3
 cases lg with
 | true=>simp[pqC,Tryz.f6,af,aH,an,ao,aG,ag,ai,aO,aj,ak,aC,az,FP.none,av,aa,ae,ab,e0,e1,g1,g3,undef,aV]
 | false =>
  have g2':=g2 rfl
  simp only[iv] at g2'
  by_cases h0:e=0
  ·subst h0
   have hc:c.length=0:=by rcases h with h | h | h <;> first | cases h | exact absurd rfl h | exact h
   rw[hc] at hl
   simp only[Int.cast_ofNat_Int] at g2'
   simp[pqC,Tryz.f6,af,aH,an,ao,aG,ag,ai,aO,aj,ak,aC,az,FP.none,aY,au,bf,av,bK,aa,ae,ab,bh,e0,e1,g1,g2',g3,hl,uCl,undef,aV]
  ·have hb:((e:Int) != 0)=true:=by simp;omega
   simp[pqC,Tryz.f6,af,aH,an,ao,aG,ag,ai,aO,aj,ak,aC,az,FP.none,aY,au,bf,av,aa,ae,ab,e0,e1,g1,g2',g3,hb,undef,aV]
theorem Mx (L:Lst)(run:aq)(k:Nat)(c:List (List ByteArray))(i j q:PV)(hc:0<c.length)(h3:2<(c[0]).length)(g1:ar L run 11 [cE c] (.sc (.bool false)))(g2:ar L run 22 [cE c] (iv 0))(g3:ar L run 12 [] (.sc (.bool true))) :
  ∃ st,af (CC L) run k pqC ⟨entry 158 [cE c,i,j,q],[],[]⟩=some (.ret,st)∧aV TT st.fr st.hp Tryz.f6.results.toList=some [.sc (.bool true)]:=by
 obtain⟨e0,e1,e2,e3,e4⟩:=wP 154 (cE c) i j q
 generalize entry 158 [cE c,i,j,q]=fr0 at *
 have hl:=fV c
 obtain⟨r,x1,x2⟩:=iu uCl c 0 hc
 have hl0:=fM c[0]
 have hl1:((c.length:Int) == 0)=false:=by rw[beq_eq_false_iff_ne];omega
 have hcn : ¬ c=[]:=fun e=>by rw[e] at hc;cases hc
 generalize c[0]=p at *
 unfold ar at g1 g2 g3
 simp only[iv,Int.cast_ofNat_Int] at g2 x1
 simp[pqC,Tryz.f6,af,aH,an,ao,aG,ag,ai,aO,aj,ak,aC,az,FP.none,aY,au,bf,av,bK,partOf,aa,ae,ab,bh,e0,e1,g1,g2,g3,hl,hl1,x1,x2,hl0,h3,ae7,uCl,uPt,aPt,sPt,aU,undef,aV]
theorem ab0 (L:Lst)(run:aq)(k:Nat)(c:List (List ByteArray))(i j q:PV)(hc:0<c.length)(h3 : ¬ 2<(c[0]).length)(g1:ar L run 11 [cE c] (.sc (.bool false)))(g2:ar L run 22 [cE c] (iv 0))(g3:ar L run 12 [] (.sc (.bool true))) :
  ∃ fr wr,aX (CC L) run k 2 pqC ⟨entry 158 [cE c,i,j,q],[],[]⟩=some ⟨fr,[],wr⟩∧fr.length=158∧nth fr 0=cE c∧nth fr 1=i∧nth fr 2=j∧nth fr 3=q:=by
 obtain⟨e0,e1,e2,e3,e4⟩:=wP 154 (cE c) i j q
 generalize entry 158 [cE c,i,j,q]=fr0 at *
 have hl:=fV c
 obtain⟨r,x1,x2⟩:=iu uCl c 0 hc
 have hl0:=fM c[0]
 have hl1:((c.length:Int) == 0)=false:=by rw[beq_eq_false_iff_ne];omega
 have hcn : ¬ c=[]:=fun e=>by rw[e] at hc;cases hc
 generalize c[0]=p at *
 unfold ar at g1 g2 g3
 simp only[iv,Int.cast_ofNat_Int] at g2 x1
 simp[pqC,Tryz.f6,aX,af,aH,an,ao,aG,ag,ai,aO,aj,ak,aC,az,FP.none,aY,au,bf,av,bK,partOf,unP,aa,ae,ab,bh,and_assoc,e0,e1,e2,e3,e4,g1,g2,g3,hl,hl1,x1,x2,hl0,h3,ae7,uCl,uPt,aPt,sPt,aU]
noncomputable def ab2:Code:=seq1 (ah 2 pqC)
theorem Th (X:List (List Rat))(i:Nat)(hi:i<X.length):∃ r,bg TT 23 (qC X) (.sc (.int .i64 (i:Int)))=some (.iptr r)∧r.head?=some (qL X[i]):=by
 obtain⟨r,h1,h2⟩:=iu uCl (X.map fun P=>P.map qb) i (by simpa using hi)
 refine⟨r,h1,?_⟩
 rw[h2,List.getElem_map];rfl
theorem abZ (L:Lst)(run:aq)(k:Nat)(fr:List PV)(wr:List Nat)(X:List (List Rat))(i j q m a b p:Nat)(hi:i<256)(hj:j<256)(hq:q<256)(hX:X.length=m)(hm0:0<m)(ha:a=i % m)(hb:b=j % m)(hp:p=q % m)(ha':a<X.length)(hb':b<X.length)(hp':p<X.length)(h0:fr.length=158)(h1:nth fr 0=qC X)(h2:nth fr 1=u8v i)(h3:nth fr 2=u8v j)(h4:nth fr 3=u8v q) :
  ∃ fr',af (CC L) run k ab2 ⟨fr,[],wr⟩=some (.normal,⟨fr',[],wr⟩)∧fr'.length=158∧nth fr' 9=qL X[a]∧nth fr' 10=qL X[b]∧nth fr' 11=qL X[p]:=by
 have hlX:=acM X
 rw[hX] at hlX
 have ht1:=yi i m a ha
 have ht2:=yi j m b hb
 have ht3:=yi q m p hp
 have hw1:=ch .i64 i (hiI (Nat.le_trans (Nat.le_of_lt hi) (by decide)))
 have hw2:=ch .i64 j (hiI (Nat.le_trans (Nat.le_of_lt hj) (by decide)))
 have hw3:=ch .i64 q (hiI (Nat.le_trans (Nat.le_of_lt hq) (by decide)))
 obtain⟨r1,x1,x2⟩:=Th X a ha'
 obtain⟨r2,y1,y2⟩:=Th X b hb'
 obtain⟨r3,z1,z2⟩:=Th X p hp'
 have hm0':m≠0:=by omega
 clear ha hb hp
 generalize X[a]=A at *
 generalize X[b]=B at *
 generalize X[p]=P at *
 simp only[u8v] at h2 h3 h4
 simp[ab2,seq1,pqC,Tryz.f6,ah,af,aH,an,ao,aG,ag,ai,aj,ak,aC,az,FP.none,aY,au,bf,bK,partOf,aa,ae,ab,bh,h0,h1,h2,h3,h4,hlX,ht1,ht2,ht3,hw1,hw2,hw3,x1,x2,y1,y2,z1,z2,hm0',dy,uI,u8T,uCl,aPt,sPt,aU,number,FP.free]
theorem Ot:dV TT 27=some [.sc (.string ⟨#[]⟩)]:=by kernel_rfl
theorem zPt:dV TT 39=some [.sc (.slice none 0 0)]:=by kernel_rfl
theorem afG:gh TT 27=some 16:=by kernel_rfl
theorem YN (s:ByteArray):eY TT 39 1 [(0,.sc (.string s))]=some (1,[.sc (.string s)]):=by
 simp[eY,uPt,lZ,Ot,rep,dn,bX,PV.cells?]
theorem abF (hp:List Blk)(s:ByteArray):fi hp 1 (.imm 1 true [.sc (.string s)])=some (1,[.sc (.string s)],[]):=by simp[fi]
noncomputable def Xz:Code:=seq1 (seq1 (ah 4 pqC))
noncomputable def pqB:Code:=(aF (seq1 (ah 4 pqC))).getD .skip
def PqF (fr:List PV)(A B P:List Rat)(i:Nat):Prop:=fr.length=158∧nth fr 9=qL A∧nth fr 10=qL B∧nth fr 11=qL P∧nth fr 13=iv i
def xS (A B:List Rat)(i:Nat):List ByteArray:=(List.range i).map fun k=>qb ((A.getD k 0+B.getD k 0) / 2)
theorem aeL (L:Lst)(run:aq)(k:Nat)(fr:List PV)(wr:List Nat)(A B P:List Rat)(h0:fr.length=158)(h9:nth fr 9=qL A)(h10:nth fr 10=qL B)(h11:nth fr 11=qL P) :
  ∃ fr1 fr',af (CC L) run k (seq1 (ah 3 pqC)) ⟨fr,[],wr⟩=some (.normal,⟨fr1,[],wr⟩)∧af (CC L) run k Xz ⟨fr1,[],wr⟩=some (.normal,⟨fr',[],wr⟩)∧PqF fr' A B P 0∧nth fr' 12 = .sc (.slice none 0 0):=by
 obtain⟨fr1,a1,a2,a3,a4,a5,a6⟩:∃ fr1,af (CC L) run k (seq1 (ah 3 pqC)) ⟨fr,[],wr⟩=some (.normal,⟨fr1,[],wr⟩)∧fr1.length=158∧nth fr1 9=qL A∧nth fr1 10=qL B∧nth fr1 11=qL P∧nth fr1 12 = .sc (.slice none 0 0):=by
  simp[seq1,ah,pqC,Tryz.f6,h0,h9,h10,h11,af,aH,an,ao,aG,ag,ai,aj,ak,aC,az,FP.none,av,aa,ae,ab]
 refine⟨fr1,?_⟩
 rw[a1]
 simp[PqF,iv,Xz,seq1,ah,pqC,Tryz.f6,a2,a3,a4,a5,a6,af,aH,an,ao,aG,ag,ai,aj,ak,aC,az,FP.none,av,aa,ae,ab,and_assoc]
theorem ab1 (L:Lst)(run:aq)(k:Nat)(fr:List PV)(hp:List Blk)(wr:List Nat)(A B P:List Rat)(h:PqF fr A B P A.length) :
  ∃ fr',af (CC L) run k pqB ⟨fr,hp,wr⟩=some (.exit 0,⟨fr',hp,wr⟩)∧PqF fr' A B P A.length∧nth fr' 12=nth fr 12:=by
 obtain⟨h0,h1,h2,h3,h13⟩:=h
 have hl:=wq A
 simp only[iv] at h13
 simp[PqF,iv,pqB,pqC,Tryz.f6,ah,seq1,aF,af,aH,an,ao,aG,ag,ai,aj,ak,aC,az,FP.none,aY,au,bf,bK,aa,ae,ab,bh,and_assoc,h0,h1,h2,h3,h13,hl,uPt]
theorem Xw (L:Lst)(run:aq)(k:Nat)(fr:List PV)(hp:List Blk)(wr:List Nat)(A B P:List Rat)(i:Nat)(hi:i<A.length)(hj:i<B.length)(he:A[i]=B[i])(h:PqF fr A B P i) :
  ∃ fr',af (CC L) run k pqB ⟨fr,hp,wr⟩=some (.ret,⟨fr',hp,wr⟩)∧nth fr' 8 = .sc (.bool true):=by
 obtain⟨h0,h1,h2,h3,h13⟩:=h
 have hl:=wq A
 obtain⟨r1,x1,x2⟩:=tg A i hi
 obtain⟨r2,y1,y2⟩:=tg B i hj
 have hq:=TN A[i] B[i]
 rw[decide_eq_true he] at hq
 simp only[iv] at h13
 simp[pqB,pqC,Tryz.f6,ah,seq1,aF,af,aH,an,ao,aG,ag,ai,aj,ak,aC,az,FP.none,aY,au,bf,av,bK,partOf,aa,ae,ab,bh,h0,h1,h2,h13,hl,hi,x1,x2,y1,y2,hq,uPt,qv,lZ,aU,number,FP.free]
theorem RH (L:Lst)(run:aq)(k:Nat)(fr:List PV)(hp:List Blk)(wr:List Nat)(A B P:List Rat)(i:Nat)(out:List ByteArray)(hi:i<A.length)(hj:i<B.length)(h9:A.length≤3)(ho9:out.length≤5)(he:A[i]≠B[i])(m v:ByteArray)(g1:ar L run 24 [.sc (.string (qb A[i])),.sc (.string (qb B[i]))] (.sc (.string m)))(g2:ar L run 25 [.sc (.string m),.sc (.string ⟨#[50]⟩)] (.sc (.string v)))(hO:hZ 1 es 0 hp out (nth fr 12))(h:PqF fr A B P i) :
  ∃ fr' hp' wr',af (CC L) run k pqB ⟨fr,hp,wr⟩=some (.normal,⟨fr',hp',wr'⟩)∧PqF fr' A B P (i+1)∧hZ 1 es 0 hp' (out++[v]) (nth fr' 12):=by
 obtain⟨h0,h1,h2,h3,h13⟩:=h
 have hl:=wq A
 obtain⟨r1,x1,x2⟩:=tg A i hi
 obtain⟨r2,y1,y2⟩:=tg B i hj
 have hq:=TN A[i] B[i]
 rw[decide_eq_false he] at hq
 have hw:=bJ i (by omega)
 obtain⟨p',hp',fp,a1,a2,a3,-⟩:=hO.app TS.toEl [v] (by simp) (by simp;omega)
 rw[show [v].flatMap es=[.sc (.string v)] from rfl,show [v].length=1 from rfl] at a1
 have hid:bM [PV.sc (.string v)]=true:=rfl
 have hlit:=YN v
 have hrd:=abF hp v
 unfold ar at g1 g2
 generalize qb A[i]=s1 at *
 generalize qb B[i]=s2 at *
 simp only[iv] at h13
 rcases fp with ⟨_ | ⟨_,_⟩,_ | ⟨_,_⟩,_ | _⟩ <;> simp[PqF,iv,pqB,pqC,Tryz.f6,ah,seq1,aF,af,aH,an,ao,aG,ag,ai,aO,aj,ak,aC,az,FP.none,aY,au,bf,av,bK,partOf,aa,ae,ab,bh,and_assoc,bc,G5,h0,h1,h2,h3,h13,hl,hi,x1,x2,y1,y2,hq,g1,g2,hw,hid,hlit,hrd,a1,a2,uPt,qv,lZ,Ot,afG,bZ,aU,number,FP.free]
noncomputable def LP:Lst:=[(11,Hl),(22,HJ),(12,Jx []),(19,vS),(24,ss),(25,ovF),(26,cmF),(27,sqF)]
theorem afJ:dM base.P LP:=⟨Ng,yC,Z8,A1,qZ,XI,ZO,GV,trivial⟩
theorem qb2:qb 2=⟨#[50]⟩:=by decide +kernel
theorem NI (A B:List Rat)(i:Nat):xS A B (i+1)=xS A B i++[qb ((A.getD i 0+B.getD i 0) / 2)]:=by
 unfold xS
 rw[List.range_succ,List.map_append];rfl
theorem Jj (run:aq)(k:Nat)(A B P:List Rat)(hA:RbL 61 A)(hB:RbL 61 B)(hl:A.length=B.length)(h9:A.length≤3):∀ (n i:Nat) (fr:List PV) (hp:List Blk) (wr:List Nat),i+n=A.length→PqF fr A B P i→hZ 1 es 0 hp (xS A B i) (nth fr 12) →
  (∃ fr' hp' wr',ca (af (CC LP) run k pqB) (n+1) ⟨fr,hp,wr⟩=some (.ret,⟨fr',hp',wr'⟩)∧nth fr' 8 = .sc (.bool true)) ∨
  ∃ fr' hp' wr',ca (af (CC LP) run k pqB) (n+1) ⟨fr,hp,wr⟩=some (.exit 0,⟨fr',hp',wr'⟩)∧PqF fr' A B P A.length∧hZ 1 es 0 hp' (xS A B A.length) (nth fr' 12)∧∀ t,i≤t→t<A.length→A.getD t 0≠B.getD t 0
 | 0,i,fr,hp,wr,hin,h,hO=>by
  have e:i=A.length:=by omega
  subst e
  obtain⟨fr',q1,q2,q3⟩:=ab1 LP run k fr hp wr A B P h
  exact .inr ⟨fr',hp,wr,bz q1,q2,by rw[q3];exact hO,fun t h1 h2=>absurd h2 (by omega)⟩
 | n+1,i,fr,hp,wr,hin,h,hO=>by
  have hi:i<A.length:=by omega
  have hj:i<B.length:=by omega
  have ea:A.getD i 0=A[i]:=by rw[List.getD_eq_getElem?_getD,List.getElem?_eq_getElem hi];rfl
  have eb:B.getD i 0=B[i]:=by rw[List.getD_eq_getElem?_getD,List.getElem?_eq_getElem hj];rfl
  by_cases he:A[i]=B[i]
  ·obtain⟨fr',q1,q2⟩:=Xw LP run k fr hp wr A B P i hi hj he h
   exact .inl ⟨fr',hp,wr,eH q1,q2⟩
  ·have ba:=hA _ (List.getElem_mem hi)
   have bb:=hB _ (List.getElem_mem hj)
   have b2:Rb 10 (2:Rat):=by
    have:=(Rb.one 0).add (Rb.one 0)
    rw[show (1:Rat)+1=2 by decide +kernel] at this
    exact this.mono (by omega)
   have g1:=aee (L:=LP) rfl run ba bb (by omega)
   have g2:=ags (L:=LP) rfl run (ba.add bb) b2 (by omega) (by omega) (by decide +kernel)
   have g2':ar LP run 25 [.sc (.string (qb (A[i]+B[i]))),.sc (.string ⟨#[50]⟩)] (.sc (.string (qb ((A[i]+B[i]) / 2)))):=by
    rw[← qb2];exact g2
   obtain⟨fr1,hp1,wr1,q1,q2,q3⟩:=RH LP run k fr hp wr A B P i (xS A B i) hi hj h9 (by unfold xS;rw[List.length_map,List.length_range];omega) he _ _ g1 g2' hO h
   rw[← ea,← eb,← NI] at q3
   rcases Jj run k A B P hA hB hl h9 n (i+1) fr1 hp1 wr1 (by omega) q2 q3 with ⟨fr',hp',wr',s1,s2⟩| ⟨fr',hp',wr',s1,s2,s3,s4⟩
   ·exact .inl ⟨fr',hp',wr',by rw[bU q1];exact s1,s2⟩
   ·refine .inr ⟨fr',hp',wr',by rw[bU q1];exact s1,s2,s3,fun t h1 h2 => ?_⟩
    by_cases ht:t=i
    ·rw[ht,ea,eb];exact he
    ·exact s4 t (by omega) h2
theorem SY (a b p:List Rat):eY TT 23 3 [(0,qL a),(1,qL b),(2,qL p)]=some (1,[qL a,qL b,qL p]):=by
 simp[eY,uCl,sPt,zPt,rep,dn,bX,PV.cells?,qL,pE,fJ]
theorem SW:eY TT 24 2 [(0,iv 0),(1,iv 1)]=some (1,[iv 0,iv 1]):=by
 simp[eY,uL,sI,zI,rep,dn,bX,PV.cells?,iv]
theorem acI:eY TT 24 3 [(0,iv 0),(1,iv 1),(2,iv 3)]=some (1,[iv 0,iv 1,iv 3]):=by
 simp[eY,uL,sI,zI,rep,dn,bX,PV.cells?,iv]
theorem acF (s t:ByteArray):eY TT 39 2 [(0,.sc (.string s)),(1,.sc (.string t))]=some (1,[.sc (.string s),.sc (.string t)]):=by
 simp[eY,uPt,lZ,Ot,rep,dn,bX,PV.cells?]
def pT (s t:ByteArray):PV:=.imm 2 true [.sc (.string s),.sc (.string t)]
theorem YO (a b p:List Rat)(s t:ByteArray):eY TT 23 4 [(0,qL a),(1,qL b),(2,qL p),(3,pT s t)]=some (1,[qL a,qL b,qL p,pT s t]):=by
 simp[eY,uCl,sPt,zPt,rep,dn,bX,PV.cells?,qL,pE,fJ,pT]
def d3 (A B P:List Rat):PV:=.imm 3 true [qL A,qL B,qL P]
def d4 (A B P:List Rat)(s t:ByteArray):PV:=.imm 4 true [qL A,qL B,qL P,pT s t]
def iP (l:List Nat):PV:=.imm l.length true (l.map iv)
def PrF (fr:List PV)(A P:List Rat)(d:PV)(l:List Nat)(cen:PV):Prop:=fr.length=158∧nth fr 9=qL A∧nth fr 11=qL P∧nth fr 12=cen∧nth fr 14=d∧nth fr 15=iP l
theorem Tt (a b p:List Rat):bM [qL a,qL b,qL p]=true:=rfl
theorem acW (a b p:List Rat)(s t:ByteArray):bM [qL a,qL b,qL p,pT s t]=true:=rfl
theorem Ts:bM [iv 0,iv 1]=true:=rfl
theorem acV:bM [iv 0,iv 1,iv 3]=true:=rfl
theorem acU (s t:ByteArray):bM [PV.sc (.string s),.sc (.string t)]=true:=rfl
theorem aeN (L:Lst)(run:aq)(k:Nat)(fr:List PV)(hp:List Blk)(wr:List Nat)(A B P:List Rat)(cen:PV)(hA:A.length=1)(h12:nth fr 12=cen)(h:PqF fr A B P A.length) :
  ∃ fr',aX (CC L) run k 2 (ah 5 pqC) ⟨fr,hp,wr⟩=some ⟨fr',hp,wr⟩∧PrF fr' A P (d3 A B P) [0,1] cen:=by
 obtain⟨h0,h9,h10,h11,h13⟩:=h
 have hl:=wq A
 rw[hA] at hl
 have l1:=SY A B P
 have l2:=SW
 have i1:=Tt A B P
 have i2:=Ts
 simp only[iv,Int.cast_ofNat_Int] at l2 i2
 simp[PrF,d3,iP,iv,aX,pqC,Tryz.f6,ah,af,aH,an,ao,aG,ag,ai,aj,ak,aC,az,FP.none,aY,au,bf,av,bK,aa,ae,ab,bh,h0,h9,h10,h11,h12,hl,l1,l2,i1,i2,uPt]
theorem aeM (L:Lst)(run:aq)(k:Nat)(fr:List PV)(hp:List Blk)(wr:List Nat)(A B P:List Rat)(cen:PV)(hA:A.length=2)(hB:B.length=2)(h12:nth fr 12=cen)(h:PqF fr A B P A.length) :
  ∃ fr' wr',aX (CC L) run k 2 (ah 5 pqC) ⟨fr,hp,wr⟩=some ⟨fr',hp,wr'⟩∧PrF fr' A P (d4 A B P (qb (A.getD 0 0)) (qb (B.getD 1 0))) [0,1,3] cen:=by
 obtain⟨h0,h9,h10,h11,h13⟩:=h
 have hl:=wq A
 rw[hA] at hl
 have l1:=SY A B P
 have l2:=SW
 have l3:=acI
 obtain⟨r1,x1,x2⟩:=tg A 0 (by omega)
 obtain⟨r2,y1,y2⟩:=tg B 1 (by omega)
 have ea:A.getD 0 0=A[0]:=by rw[List.getD_eq_getElem?_getD,List.getElem?_eq_getElem (by omega)];rfl
 have eb:B.getD 1 0=B[1]:=by rw[List.getD_eq_getElem?_getD,List.getElem?_eq_getElem (by omega)];rfl
 rw[← ea] at x2
 rw[← eb] at y2
 clear ea eb
 generalize qb (A.getD 0 0)=s at *
 generalize qb (B.getD 1 0)=t at *
 have l4:=acF s t
 have l5:=YO A B P s t
 have i1:=Tt A B P
 have i2:=Ts
 have i3:=acV
 have i4:=acW A B P s t
 have i5:=acU s t
 simp only[pT] at l5 i4
 simp only[iv,Int.cast_ofNat_Int] at l2 l3 i2 i3 x1 y1
 simp[PrF,d4,pT,iP,iv,aX,pqC,Tryz.f6,ah,af,aH,an,ao,aG,ag,ai,aj,ak,aC,az,FP.none,aY,au,bf,av,bK,partOf,aa,ae,ab,bh,and_assoc,h0,h9,h10,h11,h12,hl,l1,l2,l3,l4,l5,i1,i2,i3,i4,i5,x1,x2,y1,y2,uPt,qv,lZ,aU,number,FP.free]
noncomputable def Xy:Code:=seq1 (seq1 (ah 7 pqC))
noncomputable def pqS:Code:=(aF (seq1 (ah 7 pqC))).getD .skip
theorem aeK (L:Lst)(run:aq)(k:Nat)(fr:List PV)(hp:List Blk)(wr:List Nat)(A P:List Rat)(d:PV)(l:List Nat)(cen:PV)(h:PrF fr A P d l cen) :
  ∃ fr',af (CC L) run k Xy ⟨fr,hp,wr⟩=some (.normal,⟨fr',hp,wr⟩)∧PrF fr' A P d l cen∧nth fr' 16=iv 0:=by
 obtain⟨h0,h9,h11,h12,h14,h15⟩:=h
 simp[PrF,iv,Xy,seq1,ah,pqC,Tryz.f6,h0,h9,h11,h12,h14,h15,af,aH,an,ao,aG,ag,ai,aj,ak,aC,az,FP.none,av,aa,ae,ab,and_assoc]
theorem Xx (L:Lst)(run:aq)(k:Nat)(fr:List PV)(hp:List Blk)(wr:List Nat)(A P:List Rat)(d:PV)(l:List Nat)(cen:PV)(h:PrF fr A P d l cen)(h16:nth fr 16=iv l.length) :
  ∃ fr',af (CC L) run k pqS ⟨fr,hp,wr⟩=some (.exit 2,⟨fr',hp,wr⟩)∧PrF fr' A P d l cen:=by
 obtain⟨h0,h9,h11,h12,h14,h15⟩:=h
 have hl:dQ (iP l)=some l.length:=by simp[iP,dQ]
 simp only[iv] at h16
 simp[PrF,pqS,aF,seq1,ah,pqC,Tryz.f6,h0,h9,h11,h12,h14,h15,h16,hl,n8,af,aH,an,ao,aG,ag,ai,aj,ak,aC,az,FP.none,aY,au,bf,bK,aa,ae,ab,bh]
theorem ae3 (l:List Nat)(i:Nat)(hi:i<l.length):∃ r,bg TT 24 (iP l) (.sc (.int .i64 (i:Int)))=some (.iptr r)∧r.head?=some (.sc (.int .i64 (l[i]:Int))):=by
 have h:=ku (e:=iv) l i hi
 refine⟨br (l.map iv) (i*1),?_,by rw[Nat.mul_one];exact h⟩
 unfold iP
 simp only[bg,n8,bk,sI,hi,if_true]
theorem My (L:Lst)(run:aq)(k:Nat)(fr:List PV)(hp:List Blk)(wr:List Nat)(A P:List Rat)(d:PV)(l:List Nat)(cen:PV)(j:Nat)(hj:j<l.length)(h9:l.length≤10)(g:ar L run 19 [d,iP l,iv l[j]] (.tup [Ab.bC 0,iv 0]))(h:PrF fr A P d l cen)(h16:nth fr 16=iv j) :
  ∃ fr',af (CC L) run k pqS ⟨fr,hp,wr⟩=some (.normal,⟨fr',hp,wr⟩)∧PrF fr' A P d l cen∧nth fr' 16=iv (j+1):=by
 obtain⟨h0,h9,h11,h12,h14,h15⟩:=h
 have hl:dQ (iP l)=some l.length:=by simp[iP,dQ]
 obtain⟨r,x1,x2⟩:=ae3 l j hj
 have hw:=bJ j (by omega)
 unfold ar at g
 generalize l[j]=z at *
 simp only[iv,Ab.bC,Int.cast_ofNat_Int] at h16 g
 simp[PrF,iv,pqS,aF,seq1,ah,pqC,Tryz.f6,h0,h9,h11,h12,h14,h15,h16,hl,hj,hw,x1,x2,g,n8,sI,aI,aU,af,aH,an,ao,aG,ag,ai,aO,aj,ak,aC,az,FP.none,aY,au,bf,av,bK,partOf,aa,ae,ab,bh,and_assoc]
theorem C9 (L:Lst)(run:aq)(k:Nat)(hp:List Blk)(wr:List Nat)(A P:List Rat)(d:PV)(l:List Nat)(cen:PV)(h9:l.length≤10)(g:∀ z ∈ l,ar L run 19 [d,iP l,iv z] (.tup [Ab.bC 0,iv 0])):∀ (n j:Nat) (fr:List PV),j+n=l.length→PrF fr A P d l cen→nth fr 16=iv j →
  ∃ fr',ca (af (CC L) run k pqS) (n+1) ⟨fr,hp,wr⟩=some (.exit 2,⟨fr',hp,wr⟩)∧PrF fr' A P d l cen
 | 0,j,fr,hin,h,h16=>by
  have e:j=l.length:=by omega
  subst e
  obtain⟨fr',q1,q2⟩:=Xx L run k fr hp wr A P d l cen h h16
  exact⟨fr',bz q1,q2⟩
 | n+1,j,fr,hin,h,h16=>by
  have hj:j<l.length:=by omega
  obtain⟨fr1,q1,q2,q3⟩:=My L run k fr hp wr A P d l cen j hj h9 (g _ (List.getElem_mem hj)) h h16
  obtain⟨fr',s1,s2⟩:=C9 L run k hp wr A P d l cen h9 g n (j+1) fr1 (by omega) q2 q3
  exact⟨fr',by rw[bU q1];exact s1,s2⟩
theorem Xv (L:Lst)(run:aq)(k:Nat)(fr:List PV)(hp:List Blk)(wr:List Nat)(A P:List Rat)(d:PV)(l:List Nat)(cen:PV)(x y:ByteArray)(s:Int)(f1 f2:FP)(g1:ar L run 19 [d,iP l,iv 2] (.tup [Ab.bC s,iv 0]))(c1:cb (CC L) run false hp 27 [qL A,cen]=some (.sc (.string x),hp,f1))(c2:cb (CC L) run false hp 27 [qL P,cen]=some (.sc (.string y),hp,f2))(g2:ar L run 26 [.sc (.string x),.sc (.string y)] (Ab.bC s))(h:PrF fr A P d l cen) :
  ∃ st,af (CC L) run k (ah 8 pqC) ⟨fr,hp,wr⟩=some (.ret,st)∧aV TT st.fr st.hp Tryz.f6.results.toList=some [.sc (.bool true)]:=by
 obtain⟨h0,h9,h11,h12,h14,h15⟩:=h
 unfold ar at g1 g2
 simp only[iv,Ab.bC,Int.cast_ofNat_Int] at g1 g2
 simp[pqC,Tryz.f6,ah,af,aH,an,ao,aG,ag,ai,aO,aj,ak,aC,az,FP.none,aY,au,bf,av,aa,ae,ab,h0,h9,h11,h12,h14,h15,c1,c2,g1,g2,aV]
theorem aap {hp:List Blk}{b:Nat}{l:List ByteArray}{p:PV}(X:List Rat)(h:hZ 1 es b hp l p):∃ q ids,bq (Ab.snap hp bj) [qL X,p]=some ([qL X,q],ids)∧aJ [qL X,q]=[qL X,pE l]:=by
 obtain⟨q,ids,h1,-,h3,-⟩:=h.snap TS
 have hX:Ab.snap hp 12 (qL X)=some (qL X,[]):=rfl
 refine⟨q,ids,?_,?_⟩
 ·show bq (Ab.snap hp 12) _=_
  simp only[bq,hX,h1 10,List.append_nil,List.nil_append]
 ·show [canon (qL X),canon q]=_
  rw[h3]
  unfold qL
  rw[m4]
  rfl
theorem UN (A B P:List Rat):canon (d3 A B P)=qC [A,B,P]:=by
 simp only[d3,canon,aJ,qL,m4,qC,cE,fJ]
 rfl
theorem UM (A B P:List Rat)(a b:Rat):canon (d4 A B P (qb a) (qb b))=qC [A,B,P,[a,b]]:=by
 simp only[d4,pT,canon,aJ,qL,m4,qC,cE,fJ]
 rfl
theorem aaI:∀ l:List Nat,l.flatMap e1n=l.map iv
 | []=>rfl
 | z::r=>by rw[List.flatMap_cons,List.map_cons,aaI r];rfl
theorem UL (l:List Nat):canon (iP l)=aN l:=by
 have:=afw.ZY l.length true l rfl
 rw[Zv,aaI] at this
 exact this
theorem Vw (run:aq)(d:PV)(D:List (List Rat))(l:List Nat)(z:Nat)(hs:∀ hp,Ab.snap hp 12 d=some (d,[]))(hc:canon d=qC D)(hF:qz (D.map fun P=>P.map qb))(h9:l.length≤1000) :
  ar LP run 19 [d,iP l,iv z] (.tup [Ab.bC (nZ (D.map fun P=>P.map qb) (l.map Int.ofNat) z).1,iv (nZ (D.map fun P=>P.map qb) (l.map Int.ofNat) z).2]):=fun dr hp=>by
 have h4:vS [qC D,aN l,iv z]=some [Ab.bC (nZ (D.map fun P=>P.map qb) (l.map Int.ofNat) z).1,iv (nZ (D.map fun P=>P.map qb) (l.map Int.ofNat) z).2]:=by
  have:=mZ (e:=eCL) (ok:=fun p=>qz p.1∧p.2.1.length≤1000) (f:=fun p=>[Ab.bC (nZ p.1 p.2.1 p.2.2).1,iv (nZ p.1 p.2.1 p.2.2).2]) (fun x y _ _ h=>by rw[JW h]) (x:=((D.map fun P=>P.map qb:List (List ByteArray)),l.map Int.ofNat,(z:Int))) ⟨hF,by simpa using h9⟩
  exact this
 exact jf (L:=LP) FH rfl run dr hp _ [qC D,aN l,iv z] _ (by
  show bq (Ab.snap hp 12) _=_
  have h1:Ab.snap hp 12 (iP l)=some (iP l,[]):=rfl
  have h2:Ab.snap hp 12 (iv z)=some (iv z,[]):=rfl
  simp only[bq,hs,h1,h2,List.append_nil]) (by
  show [canon d,canon (iP l),canon (iv z)]=_
  rw[hc,UL];rfl) h4
abbrev PqA:=List (List ByteArray) × Nat × Nat × Nat
def ePq (p:PqA):List PV:=[cE p.1,u8v p.2.1,u8v p.2.2.1,u8v p.2.2.2]
def aeR (p:PqA):Prop:=(∀ q ∈ p.1,Bl q.length)∧p.2.1<256∧p.2.2.1<256∧p.2.2.2<256
def dD (A B P:List Rat):List (List Rat):=if A.length=2 then [A,B,P,[A.getD 0 0,B.getD 1 0]] else [A,B,P]
def dI (A:List Rat):List Nat:=if A.length=2 then [0,1,3] else [0,1]
def jU (A B:List Rat)(i:Nat):List Rat:=(List.range i).map fun k=>(A.getD k 0+B.getD k 0) / 2
def H8:Prop:=∀ (A B P:List Rat),A.length=B.length→A.length=P.length→(A.length=1∨A.length=2)→RbL 61 A→RbL 61 B→RbL 61 P→(∀ t,t<A.length→A.getD t 0≠B.getD t 0)→qz ((dD A B P).map fun P=>P.map qb) →
 (∀ z ∈ dI A,nZ ((dD A B P).map fun P=>P.map qb) ((dI A).map Int.ofNat) z=(0,0)) ∧
 nZ ((dD A B P).map fun P=>P.map qb) ((dI A).map Int.ofNat) 2=(CK (sqQ A (jU A B A.length)) (sqQ P (jU A B A.length)),0)
def Q60 (A:List Rat):Prop:=∀ x ∈ A,(bys (qb x)).length≤60
theorem agj {A B P:List Rat}(hA:Q60 A)(hB:Q60 B)(hP:Q60 P)(ha:A.length≤3)(hb:B.length=A.length)(hp:P.length=A.length):qz ((dD A B P).map fun P=>P.map qb):=by
 have g:∀ Y:List Rat,Y.length≤3→Q60 Y→(Y.map qb).length≤100∧∀ s ∈ Y.map qb,(bys s).length≤60:=fun Y hy hq=>by
  refine⟨by rw[List.length_map];omega,fun s hs => ?_⟩
  obtain⟨x,hx,rfl⟩:=List.mem_map.1 hs
  exact hq x hx
 refine⟨by unfold dD;split <;> simp,fun p hp' => ?_⟩
 obtain⟨Y,hY,rfl⟩:=List.mem_map.1 hp'
 have h4:A.length=2→Q60 [A.getD 0 0,B.getD 1 0]:=fun h2 x hx=>by
  have e0:A.getD 0 0 ∈ A:=by
   rw[List.getD_eq_getElem?_getD,List.getElem?_eq_getElem (by omega)];exact List.getElem_mem _
  have e1:B.getD 1 0 ∈ B:=by
   rw[List.getD_eq_getElem?_getD,List.getElem?_eq_getElem (by omega)];exact List.getElem_mem _
  simp only[List.mem_cons,List.not_mem_nil,or_false] at hx
  rcases hx with rfl | rfl
  ·exact hA _ e0
  ·exact hB _ e1
 unfold dD at hY
 split at hY
 ·rename_i h2
  simp only[List.mem_cons,List.not_mem_nil,or_false] at hY
  rcases hY with rfl | rfl | rfl | rfl
  ·exact g _ (by omega) hA
  ·exact g _ (by omega) hB
  ·exact g _ (by omega) hP
  ·exact g _ (by simp) (h4 h2)
 ·simp only[List.mem_cons,List.not_mem_nil,or_false] at hY
  rcases hY with rfl | rfl | rfl
  ·exact g _ (by omega) hA
  ·exact g _ (by omega) hB
  ·exact g _ (by omega) hP
theorem adH (A B:List Rat)(i:Nat):pE (xS A B i)=qL (jU A B i):=by
 unfold qL xS jU
 rw[List.map_map];rfl
theorem ZW {A B:List Rat}(hA:RbL 61 A)(hB:RbL 61 B)(i:Nat):RbL 1000 (jU A B i):=fun z hz=>by
 obtain⟨k,-,rfl⟩:=List.mem_map.1 hz
 have b2:Rb 1 ((2:Rat)⁻¹):=by
  refine⟨?_,?_⟩ <;> unfold Nb <;> decide +kernel
 rw[Rat.div_def]
 exact (((hA.at (by omega) k).add (hB.at (by omega) k)).mul b2).mono (by omega)
theorem RbL.Jw {j k:Nat}{X:List Rat}(h:RbL j X)(hk:j≤k):RbL k X:=fun x hx=>(h x hx).mono hk
theorem abX:ah 2 pqC = .seq ab2 (ah 3 pqC):=rfl
theorem abW:ah 3 pqC = .seq (seq1 (ah 3 pqC)) (ah 4 pqC):=rfl
theorem RG:ah 4 pqC = .seq (.seq Xz (.block 0 (.loop pqB))) (ah 5 pqC):=rfl
theorem abV:ah 7 pqC = .seq (.seq Xy (.block 2 (.loop pqS))) (ah 8 pqC):=rfl
theorem abY (fr:List PV)(hp:List Blk)(h:nth fr 8 = .sc (.bool true)):aV TT fr hp Tryz.f6.results.toList=some [.sc (.bool true)]:=by
 simp[Tryz.f6,aV,h]
theorem Ji (hM:H8)(fr:List PV)(hp:List Blk)(wr:List Nat)(A B P:List Rat)(d cen:PV)(h1:A.length=B.length)(h2:A.length=P.length)(h3:A.length=1∨A.length=2)(hA:RbL 61 A)(hB:RbL 61 B)(hP:RbL 61 P)(hne:∀ t,t<A.length→A.getD t 0≠B.getD t 0)(hF:qz ((dD A B P).map fun P=>P.map qb))(hs:∀ hp,Ab.snap hp 12 d=some (d,[]))(hc:canon d=qC (dD A B P))(hO:hZ 1 es 0 hp (xS A B A.length) cen)(h:PrF fr A P d (dI A) cen) :
  ∃ st,af (CC LP) (runK (CC LP) 10) 10 (ah 7 pqC) ⟨fr,hp,wr⟩=some (.ret,st)∧aV TT st.fr st.hp Tryz.f6.results.toList=some [.sc (.bool true)]:=by
 obtain⟨m1,m2⟩:=hM A B P h1 h2 h3 hA hB hP hne hF
 have hl9:(dI A).length≤3:=by unfold dI;split <;> simp
 have hg:∀ z ∈ dI A,ar LP (runK (CC LP) 10) 19 [d,iP (dI A),iv z] (.tup [Ab.bC 0,iv 0]):=fun z hz=>by
  have:=Vw (runK (CC LP) 10) d (dD A B P) (dI A) z hs hc hF (by omega)
  rw[m1 z hz] at this
  exact this
 have hg2:=Vw (runK (CC LP) 10) d (dD A B P) (dI A) 2 hs hc hF (by omega)
 have m2':nZ ((dD A B P).map fun P=>P.map qb) ((dI A).map Int.ofNat) ((2:Nat):Int)=(CK (sqQ A (jU A B A.length)) (sqQ P (jU A B A.length)),0):=m2
 rw[m2'] at hg2
 obtain⟨fr1,a1,a2,a3⟩:=aeK LP (runK (CC LP) 10) 10 fr hp wr A P d (dI A) cen h
 obtain⟨fr2,b1,b2⟩:=C9 LP (runK (CC LP) 10) 10 hp wr A P d (dI A) cen (by omega) hg (dI A).length 0 fr1 (by omega) a2 a3
 have hL:af (CC LP) (runK (CC LP) 10) 10 (.seq Xy (.block 2 (.loop pqS))) ⟨fr,hp,wr⟩=some (.normal,⟨fr2,hp,wr⟩):=by
  rw[aw a1];exact bF (bT b1 (by omega))
 have hcb:=ZW hA hB A.length
 have hcl:(jU A B A.length).length=A.length:=by unfold jU;rw[List.length_map,List.length_range]
 obtain⟨q,ids,s1,s2⟩:=aap A hO
 obtain⟨q',ids',s3,s4⟩:=aap P hO
 rw[adH] at s2 s4
 have k1:=afR (L:=LP) rfl (runK (CC LP) 10) false hp (qL A) cen A (jU A B A.length) _ _ s1 s2 (hA.Jw (by omega)) hcb (by omega) (by omega)
 have k2:=afR (L:=LP) rfl (runK (CC LP) 10) false hp (qL P) cen P (jU A B A.length) _ _ s3 s4 (hP.Jw (by omega)) hcb (by omega) (by omega)
 have b3:∀ {Y:List Rat},RbL 61 Y→Y.length≤2→Rb 50000 (sqQ Y (jU A B A.length)):=fun {Y} hY hy=>by
  refine (Fl (k:=1000) (by omega) (hY.Jw (by omega)) hcb Y.length).mono ?_
  exact Nat.le_trans (Nat.succ_le_succ (Nat.mul_le_mul_right _ hy)) (by decide)
 have g2:=agu (L:=LP) rfl (runK (CC LP) 10) (b3 hA (by omega)) (b3 hP (by omega)) (by omega) (by omega)
 obtain⟨st,x1,x2⟩:=Xv LP (runK (CC LP) 10) 10 fr2 hp wr A P d (dI A) cen _ _ _ _ _ hg2 k1 k2 g2 b2
 rw[← aw hL,← abV] at x1
 exact⟨st,x1,x2⟩
noncomputable def pqF:List PV→Option (List PV):=ctr ePq aeR fun _=>[.sc (.bool true)]
theorem Aq (hM:H8):Ab.Spec base.P 6 pqF:=Ab.Spec.bN (C:=CC LP) (cU afJ) fun args rs h=>by
 obtain⟨⟨c,i,j,q⟩,⟨hB,hi,hj,hq⟩,rfl,rfl⟩:=db h
 dsimp only at hB hi hj hq
 show ∃ k rs1 hp1 wr rs2 ids,runK (CC LP) k 6 [cE c,u8v i,u8v j,u8v q] []=_∧_∧WkL rs2 [.sc (.bool true)]
 have g1:=aej (L:=LP) rfl (runK (CC LP) 10) c hB
 have g3:=aai (L:=LP) rfl (runK (CC LP) 10)
 by_cases hearly:n5 c=true∨(n5 c=false∧(chk c≠0∨c.length=0))
 ·have hh:n5 c=true∨chk c≠0∨c.length=0:=by
   rcases hearly with h | ⟨-,h | h⟩
   ·exact .inl h
   ·exact .inr (.inl h)
   ·exact .inr (.inr h)
  obtain⟨st,x1,x2⟩:=RI LP (runK (CC LP) 10) 10 c (u8v i) (u8v j) (u8v q) (n5 c) (chk c) hh g1 (fun hf=>Vx rfl _ c (DD hf).fit) g3
  exact⟨11,_,_,_,_,_,aQ gW rfl x1 x2,rfl,Wk.refl rfl,trivial⟩
 ·have hf:n5 c=false:=by
   cases e:n5 c with
   | true=>exact absurd (.inl e) hearly
   | false=>rfl
  have hck:chk c=0:=Classical.byContradiction fun e=>hearly (.inr ⟨hf,.inl e⟩)
  have hc0:c.length≠0:=fun e=>hearly (.inr ⟨hf,.inr e⟩)
  have hcp:0<c.length:=Nat.pos_of_ne_zero hc0
  have hcne:c≠[]:=fun e=>hc0 (by rw[e];rfl)
  have hF:=DD hf
  obtain⟨q1,q2,q3,q4,q5⟩:=Bk hck hF
  have q3':=q3 hcne
  have g2:=Vx (L:=LP) rfl (runK (CC LP) 10) c hF.fit
  rw[hf] at g1
  rw[hck] at g2
  have hhd:hdL c=(c[0]).length:=by
   cases c with
   | nil=>exact absurd rfl hcne
   | cons p r=>rfl
  by_cases h3:2<(c[0]).length
  ·obtain⟨st,x1,x2⟩:=Mx LP (runK (CC LP) 10) 10 c (u8v i) (u8v j) (u8v q) hcp h3 g1 g2 g3
   exact⟨11,_,_,_,_,_,aQ gW rfl x1 x2,rfl,Wk.refl rfl,trivial⟩
  ·obtain⟨fr,wr,a1,a2,a3,a4,a5,a6⟩:=ab0 LP (runK (CC LP) 10) 10 c (u8v i) (u8v j) (u8v q) hcp h3 g1 g2 g3
   rw[q1] at a3
   have hcX:c=(toX c).map fun P=>P.map qb:=xn q1
   have h60:∀ A ∈ toX c,Q60 A:=fun A hA x hx=>by
    have hm:A.map qb ∈ c:=by
     rw[hcX]
     exact List.mem_map.2 ⟨A,hA,rfl⟩
    exact (hF.2 _ hm).2 _ (List.mem_map.2 ⟨x,hx,rfl⟩)
   clear hcX
   rw[← hhd] at h3
   generalize hX:toX c=X at *
   have hX0:0<X.length:=by omega
   obtain⟨a,ha⟩:∃ a,a=i % X.length:=⟨_,rfl⟩
   obtain⟨b,hb⟩:∃ b,b=j % X.length:=⟨_,rfl⟩
   obtain⟨p,hp⟩:∃ p,p=q % X.length:=⟨_,rfl⟩
   have ha':a<X.length:=by rw[ha];exact Nat.mod_lt _ hX0
   have hb':b<X.length:=by rw[hb];exact Nat.mod_lt _ hX0
   have hp':p<X.length:=by rw[hp];exact Nat.mod_lt _ hX0
   obtain⟨fr1,b1,b2,b3,b4,b5⟩:=abZ LP (runK (CC LP) 10) 10 fr wr X i j q X.length a b p hi hj hq rfl hX0 ha hb hp ha' hb' hp' a2 a3 a4 a5 a6
   have mA:=q2 _ (List.getElem_mem ha')
   have mB:=q2 _ (List.getElem_mem hb')
   have mP:=q2 _ (List.getElem_mem hp')
   have sA:=h60 _ (List.getElem_mem ha')
   have sB:=h60 _ (List.getElem_mem hb')
   have sP:=h60 _ (List.getElem_mem hp')
   clear ha hb hp
   generalize X[a]=A at *
   generalize X[b]=B at *
   generalize X[p]=P at *
   obtain⟨fr2,fr3,d1,d2,d3',d4'⟩:=aeL LP (runK (CC LP) 10) 10 fr1 wr A B P b2 b3 b4 b5
   have hst:af (CC LP) (runK (CC LP) 10) 10 pqC ⟨entry 158 [cE c,u8v i,u8v j,u8v q],[],[]⟩=af (CC LP) (runK (CC LP) 10) 10 (ah 4 pqC) ⟨fr2,[],wr⟩:=by
    rw[aM 2 a1,abX,aw b1,abW,aw d1]
   rcases Jj (runK (CC LP) 10) 10 A B P mA.2 mB.2 (by omega) (by omega) A.length 0 fr3 [] wr (by omega) d3' (by rw[d4'];exact hZ.nil (by simp)) with ⟨fr4,hp4,wr4,s1,s2⟩| ⟨fr4,hp4,wr4,s1,s2,s3,s4⟩
   ·have hL:af (CC LP) (runK (CC LP) 10) 10 pqC ⟨entry 158 [cE c,u8v i,u8v j,u8v q],[],[]⟩=some (.ret,⟨fr4,hp4,wr4⟩):=by
     rw[hst,RG]
     refine cm ?_
     rw[aw d2];exact cW (bT s1 (by omega))
    exact⟨_,_,_,_,_,_,aQ gW rfl hL (abY _ _ s2),rfl,Wk.refl rfl,trivial⟩
   ·have hL:af (CC LP) (runK (CC LP) 10) 10 (.seq Xz (.block 0 (.loop pqB))) ⟨fr2,[],wr⟩=some (.normal,⟨fr4,hp4,wr4⟩):=by
     rw[aw d2];exact bF (bT s1 (by omega))
    have hne:∀ t,t<A.length→A.getD t 0≠B.getD t 0:=fun t ht=>s4 t (Nat.zero_le _) ht
    have hFD:=agj sA sB sP (by omega) (by omega) (by omega)
    have fin:∀ {st:St},af (CC LP) (runK (CC LP) 10) 10 (ah 5 pqC) ⟨fr4,hp4,wr4⟩=some (.ret,st)→aV TT st.fr st.hp Tryz.f6.results.toList=some [.sc (.bool true)]→∃ k rs1 hp1 wr rs2 ids,runK (CC LP) k 6 [cE c,u8v i,u8v j,u8v q] []=some (rs1,hp1,wr)∧bq (snap hp1 bj) rs1=some (rs2,ids)∧WkL rs2 [.sc (.bool true)]:=by
     intro st x1 x2
     rw[← aw hL,← RG,← hst] at x1
     exact⟨11,_,_,_,_,_,aQ gW rfl x1 x2,rfl,Wk.refl rfl,trivial⟩
    have hsp:ah 2 (ah 5 pqC)=ah 7 pqC:=rfl
    by_cases h2:A.length=2
    ·obtain⟨fr5,wr5,e1,e2⟩:=aeM LP (runK (CC LP) 10) 10 fr4 hp4 wr4 A B P _ h2 (by omega) rfl s2
     have hd:dD A B P=[A,B,P,[A.getD 0 0,B.getD 1 0]]:=by unfold dD;rw[if_pos h2]
     have hi2:dI A=[0,1,3]:=by unfold dI;rw[if_pos h2]
     obtain⟨st,x1,x2⟩:=Ji hM fr5 hp4 wr5 A B P (d4 A B P (qb (A.getD 0 0)) (qb (B.getD 1 0))) (nth fr4 12) (by omega) (by omega) (.inr h2) mA.2 mB.2 mP.2 hne hFD (fun _=>rfl) (by rw[hd,UM]) s3 (by rw[hi2];exact e2)
     rw[← hsp,← aM 2 e1] at x1
     exact fin x1 x2
    ·have h1:A.length=1:=by omega
     obtain⟨fr5,e1,e2⟩:=aeN LP (runK (CC LP) 10) 10 fr4 hp4 wr4 A B P _ h1 rfl s2
     have hd:dD A B P=[A,B,P]:=by unfold dD;rw[if_neg h2]
     have hi2:dI A=[0,1]:=by unfold dI;rw[if_neg h2]
     obtain⟨st,x1,x2⟩:=Ji hM fr5 hp4 wr4 A B P (d3 A B P) (nth fr4 12) (by omega) (by omega) (.inl h1) mA.2 mB.2 mP.2 hne hFD (fun _=>rfl) (by rw[hd,UN]) s3 (by rw[hi2];exact e2)
     rw[← hsp,← aM 2 e1] at x1
     exact fin x1 x2
def sgS (S:List Bool):Nat→Bool
 | 0=>false
 | i+1=>if S.getD i false=true then sgS S i else !sgS S i
def exW (f:Nat→Rat)(r:List Rat)(S:List Bool):Nat→Rat
 | 0=>0
 | i+1=>exW f r S i+(if S.getD i false=true then 0 else bif sgS S i then -(r.getD i 0*f i) else r.getD i 0*f i)
def wN (n:Nat):List (List Rat)→List Bool→Rat
 | [],_=>1
 | r::rs,S=>exW (fun k=>wN n rs (S.set k true)) r S n
theorem JT (f:Nat→Rat)(r:List Rat)(S:List Bool):∀ i,(exS f r S i).2=sgS S i∧vv (exS f r S i).1=exW f r S i
 | 0=>⟨rfl,rfl⟩
 | i+1=>by
  obtain⟨h1,h2⟩:=JT f r S i
  unfold exS sgS exW
  by_cases hs:S.getD i false=true
  ·rw[if_pos hs,if_pos hs,if_pos hs]
   exact⟨h1,by rw[h2,Rat.add_zero]⟩
  ·rw[if_neg hs,if_neg hs,if_neg hs]
   by_cases h0:r.getD i 0=0
   ·rw[if_pos h0,h0,Rat.zero_mul]
    refine⟨by rw[h1],?_⟩
    show vv (exS f r S i).1=_
    rw[h2]
    cases sgS S i <;> simp[Rat.add_zero]
   ·rw[if_neg h0]
    refine⟨by rw[h1],?_⟩
    show vv (exS f r S i).1+_=_
    rw[h1,h2]
theorem JS (n:Nat):∀ (rows:List (List Rat)) (S:List Bool),vv (exU n rows S)=wN n rows S
 | [],S=>rfl
 | r::rs,S=>by
  unfold exU wN
  rw[(JT _ r S n).2]
  congr 1
  funext k
  exact JS n rs _
def jO (M:List (List Rat)):Rat:=wN M.length M (List.replicate M.length false)
theorem En (M:List (List Rat)):vv (mX M)=jO M:=JS _ _ _
theorem afA (r:List Rat):jO [r]=r.getD 0 0:=by
 simp[jO,wN,exW,sgS]
 try grind
theorem aaL (r s:List Rat):jO [r,s]=r.getD 0 0*s.getD 1 0 - r.getD 1 0*s.getD 0 0:=by
 simp[jO,wN,exW,sgS]
 try grind
theorem afz (r s t:List Rat):jO [r,s,t]=r.getD 0 0*(s.getD 1 0*t.getD 2 0 - s.getD 2 0*t.getD 1 0) - r.getD 1 0*(s.getD 0 0*t.getD 2 0 - s.getD 2 0*t.getD 0 0)+r.getD 2 0*(s.getD 0 0*t.getD 1 0 - s.getD 1 0*t.getD 0 0):=by
 simp[jO,wN,exW,sgS]
 try grind
theorem Nb.sub {k:Nat}{x y:Int}(h:Nb k x)(h':Nb k y):Nb (k+1) (x - y):=by rw[Int.sub_eq_add_neg];exact h.add h'.neg
theorem toNat_ofNat (l:List Nat):(l.map Int.ofNat).map Int.toNat=l:=by
 rw[List.map_map]
 conv=>rhs;rw[← List.map_id l]
 exact List.map_congr_left fun x _=>rfl
theorem PJ (x:Rat):eN (-x) = - eN x:=by unfold eN;rw[Rat.neg_num,Int.sign_neg]
theorem NG {c:List (List ByteArray)}{l:List Nat}(h:chk c=0)(hl:l.length=kD c+1)(hin:∀ i ∈ l,i<c.length):oQ c (l.map Int.ofNat) ((kD c+1:Nat):Int)=0:=by
 unfold oQ
 rw[if_neg (fun e=>e h),if_neg (by rw[List.length_map,hl];omega)]
 have:(l.map Int.ofNat).any (Bp c.length)=false:=by
  rw[List.any_eq_false]
  intro z hz
  obtain⟨i,hi,rfl⟩:=List.mem_map.1 hz
  have:=hin i hi
  unfold Bp
  simp only[Bool.or_eq_true,decide_eq_true_eq,not_or]
  constructor
  ·exact Int.not_lt.2 (Int.natCast_nonneg i)
  ·show ¬ ((c.length:Int)≤(i:Int))
   omega
 rw[this];rfl
theorem Ny {c:List (List ByteArray)}{l:List Nat}(h:chk c=0)(hl:l.length=kD c+1)(hin:∀ i ∈ l,i<c.length):jl c (l.map Int.ofNat)=(mX (fq (toX c) l),0):=by
 unfold jl
 rw[if_pos (NG h hl hin),toNat_ofNat]
end Go.Proofs.YtjdmodeenbdfpaaGreat
