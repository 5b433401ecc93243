/- Ranks by elimination and by minors, part 49 of the proof; each lemma states its own conditions. -/
import Derived.Test.YtjdmodeenbdfpaaGreatR48
import Derived.Test.YtjdmodeenbdfpaaGreatR47
import Derived.Test.YtjdmodeenbdfpaaGreatR43
import Derived.Below
import Derived.Test.YtjdmodeenbdfpaaGreatR34
import Derived.Carry
import Derived.OpenShut
import Derived.ChangeArms
import Derived.ChangeSlices
import Derived.DataReads
import Derived.WideShapes
import Derived.SizedLaws
set_option linter.unusedSimpArgs false
set_option linter.unusedVariables false
namespace Go.Proofs.YtjdmodeenbdfpaaGreat
open Go Go.Ab
theorem xE:base.F.get 5=some Tryz.f5:=by kernel_rfl
noncomputable def lrC:Code:=Tryz.f5.body.getD .skip
noncomputable def lrB:Code:=(az (ah 4 lrC)).getD .skip
noncomputable def lrI:Code:=blk (seq1 (ah 1 lrB))
noncomputable def YK:Code:=seq1 (seq1 (ah 4 lrC))
noncomputable def acO:Code:=cA (ah 1 lrB)
noncomputable def acN:Code:=seq1 lrI
noncomputable def acM:Code:=seq1 (ah 1 lrI)
noncomputable def Sf:Code:=seq1 (ah 2 lrI)
noncomputable def yL:Code:=seq1 (ah 3 lrI)
noncomputable def Se:Code:=ah 4 lrI
theorem afR:ah 4 lrC = .seq (.seq YK (.block 0 (.loop lrB))) (ah 5 lrC):=rfl
theorem afS:ah 1 lrB = .seq (.block 1 lrI) acO:=rfl
theorem acP:lrI = .seq acN (.seq acM (.seq Sf (.seq yL Se))):=rfl
def pk (l:List Nat):PV:=.imm l.length false (l.map u8v)
theorem uPk:und TT 43=some (.slice 5):=by kernel_rfl
theorem Av (l:List Nat):ef (pk l)=some l.length:=rfl
theorem Sd (L:Lst)(run:ar)(k:Nat)(c:List (List ByteArray))(l:List Nat)(lg:Bool)(e:Nat)(h:lg=true∨e≠0∨c.length=0∨8<l.length)(g1:aA L run 11 [cE c] (.sc (.bool lg)))(g2:lg=false→aA L run 22 [cE c] (iv e))(g3:aA L run 12 [] (.sc (.bool true))) :
  ∃ st,af (CC L) run k lrC ⟨entry 106 [cE c,pk l],[],[]⟩=some (.ret,st)∧aZ TT st.fr st.hp Tryz.f5.results.toList=some [.sc (.bool true)]:=by
 obtain⟨e0,e1,e2⟩:=cC 104 (cE c) (pk l)
 generalize entry 106 [cE c,pk l]=fr0 at *
 have hl:=iz c
 have hl2:=Av l
 unfold aA at g1 g2 g3
 cases lg with
 | true=>simp[lrC,Tryz.f5,af,aJ,ao,aq,aH,ag,ai,aQ,aj,an,aF,aC,FP.none,aw,aa,ae,ab,e0,e1,g1,g3,undef,aZ]
 | false =>
  have g2':=g2 rfl
  simp only[iv] at g2'
  by_cases h0:e=0
  ·subst h0
   by_cases hc:c.length=0
   ·rw[hc] at hl
    simp only[Int.cast_ofNat_Int] at g2'
    simp[lrC,Tryz.f5,af,aJ,ao,aq,aH,ag,ai,aQ,aj,an,aF,aC,FP.none,bd,au,bj,aw,bM,aa,ae,ab,bh,e0,e1,g1,g2',g3,hl,uCl,undef,aZ]
   ·have h8:8<l.length:=by rcases h with h | h | h | h <;> first | cases h | exact absurd rfl h | exact absurd h hc | exact h
    have h8':((8:Int)<(l.length:Int)):=by omega
    have hz:((c.length:Int) == 0)=false:=by rw[beq_eq_false_iff_ne];omega
    generalize c.length=n at *
    simp only[Int.cast_ofNat_Int] at g2'
    simp[lrC,Tryz.f5,af,aJ,ao,aq,aH,ag,ai,aQ,aj,an,aF,aC,FP.none,bd,au,bj,aw,bM,aa,ae,ab,bh,e0,e1,e2,g1,g2',g3,hl,hl2,hz,h8',uCl,uPk,undef,aZ]
  ·have hb:((e:Int) != 0)=true:=by simp;omega
   simp[lrC,Tryz.f5,af,aJ,ao,aq,aH,ag,ai,aQ,aj,an,aF,aC,FP.none,bd,au,bj,aw,aa,ae,ab,e0,e1,g1,g2',g3,hb,undef,aZ]
theorem acJ (L:Lst)(run:ar)(k:Nat)(c:List (List ByteArray))(l:List Nat)(hc:c.length≠0)(h8:l.length≤8)(g1:aA L run 11 [cE c] (.sc (.bool false)))(g2:aA L run 22 [cE c] (iv 0))(g3:aA L run 12 [] (.sc (.bool true))) :
  ∃ fr wr,aY (CC L) run k 4 lrC ⟨entry 106 [cE c,pk l],[],[]⟩=some ⟨fr,[],wr⟩∧fr.length=106∧nth fr 0=cE c∧nth fr 1=pk l∧nth fr 5 = .sc (.slice none 0 0)∧nth fr 6 = .sc (.int .i64 (-1)):=by
 obtain⟨e0,e1,e2⟩:=cC 104 (cE c) (pk l)
 generalize entry 106 [cE c,pk l]=fr0 at *
 have hl:=iz c
 have hl2:=Av l
 have h8':((8:Int)<(l.length:Int))=False:=by apply propext;constructor <;> intro h <;> first | omega | exact h.elim
 have hz:((c.length:Int) == 0)=false:=by rw[beq_eq_false_iff_ne];omega
 generalize c.length=n at *
 generalize l.length=m at *
 unfold aA at g1 g2 g3
 simp only[iv,Int.cast_ofNat_Int] at g2
 simp[lrC,Tryz.f5,aY,af,aJ,ao,aq,aH,ag,ai,aQ,aj,an,aF,aC,FP.none,bd,au,bj,aw,bM,unP,aa,ae,ab,bh,and_assoc,e0,e1,e2,g1,g2,g3,hl,hl2,hz,h8',uCl,uPk]
theorem ae0 (L:Lst)(run:ar)(k:Nat)(fr:List PV)(hp:List Blk)(wr:List Nat)(h0:fr.length=106):∃ fr',af (CC L) run k YK ⟨fr,hp,wr⟩=some (.normal,⟨fr',hp,wr⟩)∧nth fr' 7=iv 0:=by
 simp[iv,YK,lrC,Tryz.f5,ah,seq1,af,aJ,ao,aq,aH,ag,ai,aj,an,aF,aC,FP.none,aw,aa,h0]
theorem ae1 (L:Lst)(run:ar)(k:Nat)(fr:List PV)(hp:List Blk)(wr:List Nat)(l:List Nat)(j:Nat)(hj:j<l.length)(h0:fr.length=106)(h1:nth fr 1=pk l)(h7:nth fr 7=iv j):∃ fr',aY (CC L) run k 1 lrB ⟨fr,hp,wr⟩=some ⟨fr',hp,wr⟩∧gD (gL lrB) fr fr'∧nth fr' 7=iv j∧nth fr' 5=nth fr 5∧nth fr' 6=nth fr 6:=by
 have hl2:=Av l
 have hK:∀ fr',af (CC L) run k (seq1 lrB) ⟨fr,hp,wr⟩=some (.normal,⟨fr',hp,wr⟩)→gD (gL lrB) fr fr':=fun fr' h=>(bT _ h).mono fun t ht=>by
  have e:lrB = .seq (seq1 lrB) (ah 1 lrB):=rfl
  rw[e] at ht
  simp only[gL,Bool.or_eq_false_iff] at ht
  exact ht.1
 obtain⟨fr',a1,a2⟩:∃ fr',af (CC L) run k (seq1 lrB) ⟨fr,hp,wr⟩=some (.normal,⟨fr',hp,wr⟩)∧nth fr' 7=iv j∧nth fr' 5=nth fr 5∧nth fr' 6=nth fr 6:=by
  simp only[iv] at h7 ⊢
  simp[lrB,lrC,Tryz.f5,ah,seq1,az,af,aJ,ao,aq,aH,ag,ai,aj,an,aF,aC,FP.none,bd,au,bj,bM,aa,ae,ab,bh,h0,h1,h7,hj,hl2,uPk]
 refine⟨fr',?_,hK _ a1,a2⟩
 have e:lrB = .seq (seq1 lrB) (ah 1 lrB):=rfl
 rw[e]
 simp only[aY,a1]
theorem acL (L:Lst)(run:ar)(k:Nat)(fr:List PV)(hp:List Blk)(wr:List Nat)(l:List Nat)(h0:fr.length=106)(h1:nth fr 1=pk l)(h7:nth fr 7=iv l.length):∃ fr',af (CC L) run k lrB ⟨fr,hp,wr⟩=some (.exit 0,⟨fr',hp,wr⟩):=by
 have hl2:=Av l
 simp only[iv] at h7
 simp[lrB,lrC,Tryz.f5,ah,az,af,aJ,ao,aq,aH,ag,ai,aj,an,aF,aC,FP.none,bd,au,bj,bM,aa,ae,ab,bh,h0,h1,h7,hl2,uPk]
theorem acK (L:Lst)(run:ar)(k:Nat)(fr:List PV)(hp:List Blk)(wr:List Nat)(j:Nat)(hj:j<1000)(h0:fr.length=106)(h7:nth fr 7=iv j):∃ fr',af (CC L) run k acO ⟨fr,hp,wr⟩=some (.normal,⟨fr',hp,wr⟩)∧nth fr' 7=iv (j+1):=by
 have hw:=bE j (by omega)
 simp only[iv] at h7
 simp[iv,acO,lrB,lrC,Tryz.f5,ah,cA,az,af,aJ,ao,aq,aH,ag,ai,aj,an,aF,aC,FP.none,bd,au,bj,aw,aa,ab,h0,h7,hw]
theorem ae4 (l:List Nat)(n:Nat)(hn:n<l.length):∃ r,bc TT 43 (pk l) (.sc (.int .i64 (n:Int)))=some (.iptr r)∧r.head?=some (.sc (.int .u8 (l[n]:Int))):=by
 refine⟨br (l.map u8v) (n*1),?_,?_⟩
 ·unfold pk
  simp only[bc,uPk,bm,sU8,hn,if_true]
 ·rw[Nat.mul_one];exact kE (e:=u8v) l n hn
theorem aeZ (L:Lst)(run:ar)(k:Nat)(fr:List PV)(hp:List Blk)(wr:List Nat)(X:List (List Rat))(n:Nat)(l out:List Nat)(hX:0<X.length)(hX9:X.length<1000)(hnl:n<l.length)(hl9:∀ x ∈ l,x<256)(ho9:out.length≤50)(hO:gC 1 e1n 0 hp out (nth fr 5))(h0:fr.length=106)(h00:nth fr 0=qC X)(h1:nth fr 1=pk l)(h7:nth fr 7=iv n) :
  ∃ fr' hp' wr',af (CC L) run k acN ⟨fr,hp,wr⟩=some (.normal,⟨fr',hp',wr'⟩)∧gC 1 e1n 0 hp' (out++[l[n] % X.length]) (nth fr' 5):=by
 have hlX:=acZ X
 obtain⟨r,x1,x2⟩:=ae4 l n hnl
 have hln:l[n]<256:=hl9 _ (List.getElem_mem _)
 obtain⟨m,hm⟩:∃ m,m=l[n] % X.length:=⟨_,rfl⟩
 rw[← hm]
 have htm:=H9 l[n] X.length m hm
 have hw1:=cu .i64 l[n] (hiI (Nat.le_trans (Nat.le_of_lt hln) (by decide)))
 obtain⟨p',hp',fp,a1,a2,a3,-⟩:=hO.app aaD.toEl [m] (by simp) (by simp;omega)
 rw[show [m].flatMap e1n=[iv m] from rfl,show [m].length=1 from rfl] at a1
 have hlX':ie TT 24 1 [(0,.sc (.int .i64 (m:Int)))]=some (1,[iv m]):=mA m
 have hX0:X.length≠0:=by omega
 have hXn : ¬ X=[]:=fun e=>hX0 (by rw[e];rfl)
 generalize hz:l[n]=z at *
 have hid:cq [PV.sc (.int .i64 (m:Int))]=true:=rfl
 have hrd:∀ hp,fO hp 1 (.imm 1 true [PV.sc (.int .i64 (m:Int))])=some (1,[PV.sc (.int .i64 (m:Int))],[]):=fun hp=>j9 hp m
 simp only[iv] at h7 a1 hlX'
 simp[iv,acN,lrI,lrB,lrC,Tryz.f5,ah,seq1,blk,az,af,aJ,ao,aq,aH,ag,ai,aj,an,aF,aC,FP.none,bd,au,bj,aw,bM,partOf,aa,ae,ab,bh,and_assoc,vO,bg,h0,h00,h1,h7,x1,x2,hid,hrd,hlX,htm,hw1,hlX',hX0,dF,uI,u8T,uCl,a8,sU8,uL,sI,bI,zI,cn,aU,a1,a2]
theorem aeY (L:Lst)(run:ar)(k:Nat)(fr:List PV)(hp:List Blk)(wr:List Nat)(X:List (List Rat))(p:PV)(r:Nat)(fp:FP)(hc:cg (CC L) run false hp 17 [qC X,p]=some (.tup [iv r,iv 0],hp,fp))(h0:fr.length=106)(h00:nth fr 0=qC X)(h5:nth fr 5=p) :
  ∃ fr' wr',af (CC L) run k acM ⟨fr,hp,wr⟩=some (.normal,⟨fr',hp,wr'⟩)∧nth fr' 8=iv r∧nth fr' 9=iv 0:=by
 simp only[iv] at hc ⊢
 simp[acM,lrI,lrB,lrC,Tryz.f5,ah,seq1,blk,az,af,aJ,ao,aq,aH,ag,ai,aQ,aj,an,aF,aC,FP.none,aa,ae,ab,and_assoc,h0,h00,h5,hc]
theorem acI (L:Lst)(run:ar)(k:Nat)(fr:List PV)(hp:List Blk)(wr:List Nat)(X:List (List Rat))(r:Nat)(last:Int)(hX:0<X.length)(hm:X[0].length≤3)(h1:last≤r)(h2:(r:Int)≤last+1)(h3:r≤X[0].length)(h0:fr.length=106)(h00:nth fr 0=qC X)(h6:nth fr 6 = .sc (.int .i64 last))(h8:nth fr 8=iv r)(h9:nth fr 9=iv 0) :
  ∃ fr',af (CC L) run k Sf ⟨fr,hp,wr⟩=some (.normal,⟨fr',hp,wr⟩):=by
 obtain⟨rr,y1,y2⟩:=Ao hX
 have hl:=GH X[0]
 have e1:((r:Int)<last)=False:=by apply propext;constructor <;> intro h <;> first | omega | exact h.elim
 have e2:(last+1<(r:Int))=False:=by apply propext;constructor <;> intro h <;> first | omega | exact h.elim
 have e3:(X[0].length:Int)<(r:Int) ↔ False:=by constructor <;> intro h <;> first | omega | exact h.elim
 have hw:=fh (last+1) (by omega) (by omega)
 generalize qL X[0]=p at *
 generalize X[0].length=m at *
 simp only[iv,Int.cast_ofNat_Int] at h8 h9
 simp[Sf,lrI,lrB,lrC,Tryz.f5,ah,seq1,blk,az,af,aJ,ao,aq,aH,ag,ai,aj,an,aF,aC,FP.none,bd,au,bj,aw,bM,partOf,aa,ae,ab,bh,h0,h00,h6,h8,h9,y1,y2,hl,e1,e2,e3,hw,uPt,aPt,sPt,aU]
theorem YI (L:Lst)(run:ar)(k:Nat)(fr:List PV)(hp:List Blk)(wr:List Nat)(X:List (List Rat))(p:PV)(t:Nat)(hX:0<X.length)(hm:X[0].length≤3)(hp':ef p=some t)(ht:t≠X[0].length+1)(h0:fr.length=106)(h00:nth fr 0=qC X)(h5:nth fr 5=p) :
  ∃ fr' wr',af (CC L) run k yL ⟨fr,hp,wr⟩=some (.normal,⟨fr',hp,wr'⟩):=by
 obtain⟨rr,y1,y2⟩:=Ao hX
 have hl:=GH X[0]
 have hw:=bE X[0].length (by omega)
 have e1:((t:Int) == (X[0].length:Int)+1)=false:=by rw[beq_eq_false_iff_ne];omega
 generalize qL X[0]=q at *
 generalize X[0].length=m at *
 simp[yL,lrI,lrB,lrC,Tryz.f5,ah,seq1,blk,az,af,aJ,ao,aq,aH,ag,ai,aj,an,aF,aC,FP.none,bd,au,bj,aw,bM,partOf,aa,ae,ab,bh,h0,h00,h5,y1,y2,hl,hp',hw,e1,uPt,aPt,sPt,ox,aU]
theorem YH (L:Lst)(run:ar)(k:Nat)(fr:List PV)(hp:List Blk)(wr:List Nat)(X:List (List Rat))(p:PV)(r:Nat)(s:Int)(fp:FP)(hX:0<X.length)(hm:X[0].length≤3)(hp':ef p=some (X[0].length+1))(hc:cg (CC L) run false hp 15 [qC X,p]=some (.tup [.sc (.int .i64 s),iv 0],hp,fp))(hs:s≠0 ↔ r=X[0].length)(h0:fr.length=106)(h00:nth fr 0=qC X)(h5:nth fr 5=p)(h8:nth fr 8=iv r) :
  ∃ fr' wr',af (CC L) run k yL ⟨fr,hp,wr⟩=some (.normal,⟨fr',hp,wr'⟩):=by
 obtain⟨rr,y1,y2⟩:=Ao hX
 have hl:=GH X[0]
 have hw:=bE X[0].length (by omega)
 have e2:(s != 0)=decide (r=X[0].length):=by
  by_cases h:s=0
  ·rw[h,decide_eq_false (fun e=>(hs.2 e) h)];rfl
  ·rw[decide_eq_true (hs.1 h)];simpa using h
 have hu:und TT 4=some .bool:=uB
 generalize qL X[0]=q at *
 generalize X[0].length=m at *
 simp only[iv,Int.cast_ofNat_Int] at h8 hc
 simp[yL,lrI,lrB,lrC,Tryz.f5,ah,seq1,blk,az,af,aJ,ao,aq,aH,ag,ai,aQ,aj,an,aF,aC,FP.none,bd,au,bj,dE,aw,bM,partOf,aa,ae,ab,bh,afr,h0,h00,h5,h8,y1,y2,hl,hp',hw,hc,e2,hu,uPt,aPt,sPt,ox,aU]
theorem acH (L:Lst)(run:ar)(k:Nat)(fr:List PV)(hp:List Blk)(wr:List Nat)(r:Nat)(h0:fr.length=106)(h8:nth fr 8=iv r) :
  ∃ fr',af (CC L) run k Se ⟨fr,hp,wr⟩=some (.normal,⟨fr',hp,wr⟩)∧nth fr' 6=iv r:=by
 simp[Se,lrI,lrB,lrC,Tryz.f5,ah,seq1,blk,az,af,aJ,ao,aq,aH,ag,ai,aj,an,aF,aC,FP.none,aa,ab,h0,h8]
theorem YJ (L:Lst)(run:ar)(k:Nat)(fr:List PV)(hp:List Blk)(wr:List Nat)(h0:fr.length=106):∃ st,af (CC L) run k (ah 5 lrC) ⟨fr,hp,wr⟩=some (.ret,st)∧aZ TT st.fr st.hp Tryz.f5.results.toList=some [.sc (.bool true)]:=by
 simp[lrC,ah,Tryz.f5,h0,af,aJ,ao,aq,aH,ag,ai,aj,an,aF,aC,FP.none,aw,aa,aZ]
noncomputable def LX:Lst:=[(11,GG),(22,Hc),(12,ib []),(17,Ga),(15,vI)]
theorem afu:dL base.P LX:=⟨MA,yb,Z7,F9,Ap,trivial⟩
theorem Uq {c:List (List ByteArray)}{X:List (List Rat)}(hc:cE c=qC X)(hF:xc c){l:List Nat}(h9:l.length≤900){b:Nat}{hp:List Blk}{p:PV}(hO:gC 1 e1n b hp l p)(run:ar)(dr:Bool):∃ fp,cg (CC LX) run dr hp 17 [qC X,p]=some (.tup [Ab.bJ (jL c (l.map Int.ofNat)).1,iv (jL c (l.map Int.ofNat)).2],hp,fp):=by
 obtain⟨q,ids,h1,h2,-⟩:=aap X hO
 have h3:Ga [qC X,aN l]=some [Ab.bJ (jL c (l.map Int.ofNat)).1,iv (jL c (l.map Int.ofNat)).2]:=by
  rw[← hc]
  exact rN (e:=eCA) (ok:=aeL) (f:=fun p=>[Ab.bJ (jL p.1 p.2).1,iv (jL p.1 p.2).2]) (fun x y _ _ h=>by rw[AE h]) (x:=(c,l.map Int.ofNat)) ⟨hF,by simpa using h9⟩
 exact⟨_,DF (L:=LX) OB rfl run dr hp _ _ _ _ _ h1 h2 h3 rfl⟩
theorem Ur {c:List (List ByteArray)}{X:List (List Rat)}(hc:cE c=qC X)(hF:xc c){l:List Nat}(h9:l.length≤900){b:Nat}{hp:List Blk}{p:PV}(hO:gC 1 e1n b hp l p)(run:ar)(dr:Bool):∃ fp,cg (CC LX) run dr hp 15 [qC X,p]=some (.tup [Ab.bJ (LU c (l.map Int.ofNat)),iv (mf c (l.map Int.ofNat)).2],hp,fp):=by
 obtain⟨q,ids,h1,h2,-⟩:=aap X hO
 have h3:vI [qC X,aN l]=some [Ab.bJ (LU c (l.map Int.ofNat)),iv (mf c (l.map Int.ofNat)).2]:=by
  rw[← hc]
  exact rN (e:=eCA) (ok:=abK) (f:=fun p=>[Ab.bJ (LU p.1 p.2),iv (mf p.1 p.2).2]) (fun x y _ _ h=>by rw[AE h]) (x:=(c,l.map Int.ofNat)) ⟨hF,by simp;omega⟩
 exact⟨_,DF (L:=LX) ET rfl run dr hp _ _ _ _ _ h1 h2 h3 rfl⟩
theorem zi {c:List (List ByteArray)}{l:List Nat}(h:chk c=0)(hin:∀ i ∈ l,i<c.length):kH c (l.map Int.ofNat) (-1)=0:=by
 unfold kH
 rw[if_neg (fun e=>e h),if_neg (by omega)]
 have:(l.map Int.ofNat).any (rS c.length)=false:=by
  rw[List.any_eq_false]
  intro z hz
  obtain⟨i,hi,rfl⟩:=List.mem_map.1 hz
  have:=hin i hi
  unfold rS
  simp only[Bool.or_eq_true,decide_eq_true_eq,not_or]
  constructor
  ·exact Int.not_lt.2 (Int.natCast_nonneg i)
  ·show ¬ ((c.length:Int)≤(i:Int))
   omega
 rw[this];rfl
theorem uV {c:List (List ByteArray)}{l:List Nat}(h:chk c=0)(hin:∀ i ∈ l,i<c.length)(hl:l≠[]):jL c (l.map Int.ofNat)=((rkM (dq (toX c) l):Int),0):=by
 unfold jL
 rw[if_neg (fun e=>e (zi h hin)),if_neg (by simpa using hl),toNat_ofNat]
theorem G8 (X:List (List Rat)){l:List Nat}(h:l≠[])(b:Nat):∃ v,dq X (l++[b])=dq X l++[v]:=by
 cases l with
 | nil=>exact absurd rfl h
 | cons a l =>
  refine⟨ij (X.getD b []) (X.getD a []),?_⟩
  unfold dq
  simp
abbrev RkA:=List (List ByteArray) × List Nat
def adv (p:RkA):List PV:=[cE p.1,pk p.2]
def aaw (p:RkA):Prop:=(∀ q ∈ p.1,Bl q.length)∧∀ x ∈ p.2,x<256
noncomputable def Pv:List PV→Option (List PV):=ctr adv aaw fun _=>[.sc (.bool true)]
def pre (m:Nat)(l:List Nat)(i:Nat):List Nat:=(l.take i).map (· % m)
theorem Co {m:Nat}{l:List Nat}{i:Nat}(hi:i<l.length):pre m l (i+1)=pre m l i++[l[i] % m]:=by
 unfold pre
 rw[List.take_succ_eq_append_getElem hi,List.map_append];rfl
theorem QP {m:Nat}(hm:0<m)(l:List Nat)(i:Nat):∀ j ∈ pre m l i,j<m:=by
 intro j hj
 unfold pre at hj
 obtain⟨x,-,rfl⟩:=List.mem_map.1 hj
 exact Nat.mod_lt _ hm
theorem pK {m:Nat}{l:List Nat}{i:Nat}(hi:i≤l.length):(pre m l i).length=i:=by
 unfold pre;rw[List.length_map,List.length_take];omega
noncomputable def tb (c:List (List ByteArray))(l:List Nat)(i:Nat):Int:=(jL c ((pre c.length l i).map Int.ofNat)).1
theorem IV {c:List (List ByteArray)}{l:List Nat}(h:chk c=0):tb c l 0 = -1:=by
 unfold tb pre
 rw[List.take_zero]
 unfold jL
 have h0:=zi (l:=[]) h (by simp)
 simp only[List.map_nil] at h0 ⊢
 rw[if_neg (fun e=>e h0),if_pos trivial]
theorem v8 {c:List (List ByteArray)}{l:List Nat}(h:chk c=0)(hm:0<c.length){i:Nat}(hi:i<l.length):tb c l (i+1)=(rkM (dq (toX c) (pre c.length l (i+1))):Nat):=by
 unfold tb
 rw[uV h (QP hm l _) (by intro e;have:=pK (m:=c.length) (l:=l) (i:=i+1) (by omega);rw[e] at this;simp at this)]
theorem Fo {c:List (List ByteArray)}{l:List Nat}(h:chk c=0)(hm:0<c.length){i:Nat}(hi:i<l.length):tb c l i≤(rkM (dq (toX c) (pre c.length l (i+1))):Nat)∧((rkM (dq (toX c) (pre c.length l (i+1))):Nat):Int)≤tb c l i+1:=by
 cases i with
 | zero =>
  rw[IV h]
  have e:rkM (dq (toX c) (pre c.length l 1))=0:=by
   have:dq (toX c) (pre c.length l 1)=[]:=by
    apply List.eq_nil_of_length_eq_zero
    rw[lp,pK (by omega)]
   rw[this]
   exact qT (by rintro⟨a,ha,-⟩;cases ha)
  rw[e]
  omega
 | succ i =>
  rw[v8 h hm (by omega),Co hi]
  obtain⟨v,hv⟩:=G8 (toX c) (l:=pre c.length l (i+1)) (by intro e;have:=pK (m:=c.length) (l:=l) (i:=i+1) (by omega);rw[e] at this;simp at this) (l[i+1] % c.length)
  rw[hv]
  have h1:=Wj (dq (toX c) (pre c.length l (i+1))) v
  have h2:rkM (dq (toX c) (pre c.length l (i+1)))≤rkM (dq (toX c) (pre c.length l (i+1))++[v]):=zU fun a ha=>List.mem_append_left _ ha
  omega
theorem Fm:Ab.Spec base.P 5 Pv:=Ab.Spec.bQ (C:=CC LX) (cV afu) fun args rs h=>by
 obtain⟨⟨c,l⟩,⟨hB,hl9⟩,rfl,rfl⟩:=dz h
 dsimp only at hB hl9
 show ∃ k rs1 hp1 wr rs2 ids,runK (CC LX) k 5 [cE c,pk l] []=_∧_∧WkL rs2 [.sc (.bool true)]
 have g1:=aej (L:=LX) rfl (runK (CC LX) 10) c hB
 have g3:=aaj (L:=LX) rfl (runK (CC LX) 10)
 have fin:∀ {st:St},af (CC LX) (runK (CC LX) 10) 10 lrC ⟨entry 106 [cE c,pk l],[],[]⟩=some (.ret,st)→aZ TT st.fr st.hp Tryz.f5.results.toList=some [.sc (.bool true)]→∃ k rs1 hp1 wr rs2 ids,runK (CC LX) k 5 [cE c,pk l] []=some (rs1,hp1,wr)∧bt (Ab.snap hp1 bp) rs1=some (rs2,ids)∧WkL rs2 [.sc (.bool true)]:=fun x1 x2 =>
  ⟨11,_,_,_,_,_,aX xE rfl x1 x2,rfl,Wk.refl rfl,trivial⟩
 by_cases hearly:ov c=true∨(ov c=false∧(chk c≠0∨c.length=0∨8<l.length))
 ·have hh:ov c=true∨chk c≠0∨c.length=0∨8<l.length:=by
   rcases hearly with h | ⟨-,h⟩
   ·exact .inl h
   ·exact .inr h
  obtain⟨st,x1,x2⟩:=Sd LX (runK (CC LX) 10) 10 c l (ov c) (chk c) hh g1 (fun hf=>UX rfl _ c (CW hf).fit) g3
  exact fin x1 x2
 ·have hf:ov c=false:=by
   cases e:ov c with
   | true=>exact absurd (.inl e) hearly
   | false=>rfl
  have hck:chk c=0:=Classical.byContradiction fun e=>hearly (.inr ⟨hf,.inl e⟩)
  have hc0:c.length≠0:=fun e=>hearly (.inr ⟨hf,.inr (.inl e)⟩)
  have h8:l.length≤8:=by
   by_cases e:8<l.length
   ·exact absurd (.inr ⟨hf,.inr (.inr e)⟩) hearly
   ·omega
  have hF:=CW hf
  have hcp:0<c.length:=by omega
  have hcne:c≠[]:=by intro e;rw[e] at hc0;exact hc0 rfl
  obtain⟨q1,q2,q3,q4,q5⟩:=AJ hck hF
  obtain⟨hm1,hm3⟩:=q3 hcne
  have hax:=AN hck
  have g2:=UX (L:=LX) rfl (runK (CC LX) 10) c hF.fit
  rw[hck] at g2
  rw[hf] at g1
  obtain⟨fr0,wr0,a1,a2,a3,a4,a5,a6⟩:=acJ LX (runK (CC LX) 10) 10 c l hc0 h8 g1 g2 g3
  rw[q1] at a3
  obtain⟨fr1,b1,b2⟩:=ae0 LX (runK (CC LX) 10) 10 fr0 [] wr0 a2
  have K1:=bT _ b1
  have i0:=K1.len a2
  have i1:nth fr1 0=qC (toX c):=K1.at a3 (by kernel_rfl)
  have i2:nth fr1 1=pk l:=K1.at a4 (by kernel_rfl)
  have i5:nth fr1 5 = .sc (.slice none 0 0):=K1.at a5 (by kernel_rfl)
  have i6:nth fr1 6 = .sc (.int .i64 (-1)):=K1.at a6 (by kernel_rfl)
  have hX:0<(toX c).length:=by omega
  have hX0:((toX c)[0]'hX).length=hdL c:=(q2 _ (List.getElem_mem hX)).1
  obtain⟨st,d1,d2⟩:=pX (C:=CC LX) (run:=runK (CC LX) 10) (k:=10) (e:=0) (b:=lrB) (n:=l.length) (st:=⟨fr1,[],wr0⟩)
   (Inv:=fun i st=>gD (gL lrB) fr1 st.fr∧nth st.fr 7=iv i∧gC 1 e1n 0 st.hp (pre c.length l i) (nth st.fr 5)∧nth st.fr 6 = .sc (.int .i64 (tb c l i)))
   (Q:=fun st=>st.fr.length=106) (by omega)
   (fun i st hi ⟨k1,k2,k3,k4⟩=>by
    obtain⟨fr,hp,wr⟩:=st
    dsimp only at k1 k2 k3 k4
    obtain⟨fr2,e1,e2,e3,e4,e5⟩:=ae1 LX (runK (CC LX) 10) 10 fr hp wr l i hi (k1.len i0) (k1.at i2 (by kernel_rfl)) k2
    have k1':=k1.trans e2
    have l2:=k1'.len i0
    obtain⟨fr3,hp3,wr3,f1,f2⟩:=aeZ LX (runK (CC LX) 10) 10 fr2 hp wr (toX c) i l (pre c.length l i) hX (by omega) hi hl9 (by rw[pK (by omega)];omega) (by rw[e4];exact k3) l2 (k1'.at i1 (by kernel_rfl)) (k1'.at i2 (by kernel_rfl)) e3
    have K3:=bT _ f1
    rw[q5,← Co hi] at f2
    have hin:=QP hcp l (i+1)
    have hlen:=pK (m:=c.length) (l:=l) (i:=i+1) (by omega)
    have hne:pre c.length l (i+1)≠[]:=by intro e;rw[e] at hlen;simp at hlen
    obtain⟨fp,u1⟩:=Uq q1 hF (by omega) f2 (runK (CC LX) 10) false
    rw[uV hck hin hne] at u1
    have hst:=Fo hck hcp hi
    have hinX:∀ j ∈ pre c.length l (i+1),j<(toX c).length:=fun j hj=>by rw[q5];exact hin j hj
    have hdo:=qj q2 hinX
    have hle:=aat (fun a ha=>(hdo a ha).1)
    have hls:=v8 hck hcp hi
    have hdl:=lp (toX c) (pre c.length l (i+1))
    have l3:=K3.len l2
    have m0:nth fr3 0=qC (toX c):=K3.at (k1'.at i1 (by kernel_rfl)) (by kernel_rfl)
    obtain⟨fr4,wr4,v1,v2,v3⟩:=aeY LX (runK (CC LX) 10) 10 fr3 hp3 wr3 (toX c) _ (rkM (dq (toX c) (pre c.length l (i+1)))) fp u1 l3 m0 rfl
    have K4:=bT _ v1
    have l4:=K4.len l3
    have m1:nth fr4 0=qC (toX c):=K4.at m0 (by kernel_rfl)
    obtain⟨fr5,w1⟩:=acI LX (runK (CC LX) 10) 10 fr4 hp3 wr4 (toX c) _ (tb c l i) hX (by omega) hst.1 hst.2 (by rw[hX0];exact hle) l4 m1 (K4.at (K3.at (e5.trans k4) (by kernel_rfl)) (by kernel_rfl)) v2 v3
    have K5:=bT _ w1
    have l5:=K5.len l4
    have m2:nth fr5 0=qC (toX c):=K5.at m1 (by kernel_rfl)
    have m8:nth fr5 8=iv (rkM (dq (toX c) (pre c.length l (i+1)))):=K5.at v2 (by kernel_rfl)
    have m5:nth fr5 5=nth fr3 5:=K5.at (K4.at rfl (by kernel_rfl)) (by kernel_rfl)
    have h12:∃ fr6 wr6,af (CC LX) (runK (CC LX) 10) 10 yL ⟨fr5,hp3,wr4⟩=some (.normal,⟨fr6,hp3,wr6⟩):=by
     by_cases hq:(pre c.length l (i+1)).length=hdL c+1
     ·have hdg:=MU (l:=pre c.length l (i+1)) hck (by rw[hq,hax]) hin
      obtain⟨fp2,u2⟩:=Ur q1 hF (by omega) f2 (runK (CC LX) 10) false
      rw[hdg] at u2
      refine YH LX (runK (CC LX) 10) 10 fr5 hp3 wr4 (toX c) (nth fr3 5) (rkM (dq (toX c) (pre c.length l (i+1)))) (LU c ((pre c.length l (i+1)).map Int.ofNat)) fp2 hX (by omega) (by rw[hX0,← hq];exact f2.len) u2 ?_ l5 m2 m5 m8
      rw[hX0,← abh hm1 hm3 (by rw[hdl,hq];omega) (fun a ha=>(hdo a ha).1)]
      unfold LU
      rw[hdg,← TN,Ne,Ne,O7]
     ·exact YI LX (runK (CC LX) 10) 10 fr5 hp3 wr4 (toX c) (nth fr3 5) _ hX (by omega) f2.len (by rw[hX0];exact hq) l5 m2 m5
    obtain⟨fr6,wr6,x1⟩:=h12
    have K6:=bT _ x1
    obtain⟨fr7,y1,y2⟩:=acH LX (runK (CC LX) 10) 10 fr6 hp3 wr6 _ (K6.len l5) (K6.at m8 (by kernel_rfl))
    have K7:=bT _ y1
    have hI:af (CC LX) (runK (CC LX) 10) 10 (.block 1 lrI) ⟨fr2,hp,wr⟩=some (.normal,⟨fr7,hp3,wr6⟩):=by
     refine dW ?_
     rw[acP,av f1,av v1,av w1,av x1];exact y1
    have KI:=bT _ hI
    obtain⟨fr8,z1,z2⟩:=acK LX (runK (CC LX) 10) 10 fr7 hp3 wr6 i (by omega) (KI.len l2) (KI.at e3 (by kernel_rfl))
    have K8:=bT _ z1
    have hall:af (CC LX) (runK (CC LX) 10) 10 lrB ⟨fr,hp,wr⟩=some (.normal,⟨fr8,hp3,wr6⟩):=by
     rw[aP 1 e1,afS,av hI];exact z1
    refine⟨_,hall,k1.trans (bT _ hall),z2,?_,?_⟩
    ·have:nth fr8 5=nth fr3 5:=K8.at (K7.at (K6.at m5 (by kernel_rfl)) (by kernel_rfl)) (by kernel_rfl)
     dsimp only
     rw[this];exact f2
    ·rw[hls]
     exact K8.at y2 (by kernel_rfl))
   (fun st ⟨k1,k2,k3,k4⟩=>by
    obtain⟨fr,hp,wr⟩:=st
    dsimp only at k1 k2 k3 k4
    obtain⟨fr',e1⟩:=acL LX (runK (CC LX) 10) 10 fr hp wr l (k1.len i0) (k1.at i2 (by kernel_rfl)) k2
    exact⟨_,e1,(bT _ e1).len (k1.len i0)⟩)
   ⟨gD.refl _ _,b2,by dsimp only;rw[i5];exact gC.nil (Nat.le_refl _),by dsimp only;rw[IV hck];exact i6⟩
  obtain⟨fr,hp,wr⟩:=st
  obtain⟨st,x1,x2⟩:=YJ LX (runK (CC LX) 10) 10 fr hp wr d2
  refine fin (st:=st) ?_ x2
  have hs:af (CC LX) (runK (CC LX) 10) 10 (.seq YK (.block 0 (.loop lrB))) ⟨fr0,[],wr0⟩=some (.normal,⟨fr,hp,wr⟩):=by rw[av b1];exact d1
  rw[aP 4 a1,afR,av hs]
  exact x1
end Go.Proofs.YtjdmodeenbdfpaaGreat
namespace Go.Ab
open Go Go.RowKit
end Go.Ab
namespace Go.Ab
open Go Go.RowKit
def NoM:Nat→Prop:=fun _=>False
def Rdg {α:Type}(P:Program)(t:TypeId)(e:α→PV)(ok:α→Prop):Prop :=
 ∀ (H:Type) (enc:TypeId × Value→H) (W:World) (fuel:Nat) (cs:List Value) (x:DataW H × List MemPlace),DataW.trod enc P W 0 (fun _=>true) true fuel t cs=some x→(∀ n ∈ DataW.weights P t x.1,n≤reachBytes)→∃ a v,cs=[v]∧ok a∧V W NoM [] NoL (e a) v
theorem Fl {P:Program}{t:TypeId}(ht:P.underlying t=some .string):Rdg P t (fun s=>.sc (.string s)) (fun s=>s.size≤reachBytes):=fun H enc W fuel cs x h hw=>by
 obtain⟨s,h1,rfl,-⟩:=DataW.trod_string ht h
 refine⟨s,_,h1,hw s.size ?_,.sc _⟩
 simp only[DataW.weights,List.mem_singleton]
 rfl
theorem abl {P:Program}{t:TypeId}(ht:P.underlying t=some (.int .u8)):Rdg P t u8v (· < 256):=fun H enc W fuel cs x h _=>by
 obtain⟨n,h1,-,h2⟩:=DataW.trod_int ht h
 have hb:=bounds_u8 h2
 refine⟨n.toNat,_,h1,by omega,?_⟩
 have:u8v n.toNat = .sc (.int .u8 n):=by unfold u8v;rw[Int.toNat_of_nonneg hb.1]
 rw[this]
 exact .sc _
theorem Tb {α:Type}(Q:Nat→α→Prop):∀ (n:Nat),(∀ i,i<n→∃ a,Q i a)→∃ l:List α,l.length=n∧∀ i a,l[i]?=some a→Q i a
 | 0,_=>⟨[],rfl,by simp⟩
 | n+1,h=>by
  obtain⟨l,h1,h2⟩:=Tb Q n fun i hi=>h i (by omega)
  obtain⟨a,ha⟩:=h n (by omega)
  refine⟨l++[a],by simp[h1],fun i b hb => ?_⟩
  rcases Nat.lt_or_ge i l.length with hi | hi
  ·rw[List.getElem?_append_left hi] at hb;exact h2 i b hb
  ·rw[List.getElem?_append_right hi] at hb
   cases hj:i - l.length with
   | zero =>
    rw[hj] at hb
    cases hb
    have:i=n:=by omega
    rw[this]
    exact ha
   | succ j=>rw[hj] at hb;simp at hb
theorem rY {H:Type}{P:Program}{e:TypeId}{m:Nat} : ∀ {l:List (DataW H)} {i:Nat} {d:DataW H},l[i]?=some d→m ∈ DataW.weights P e d→m ∈ DataW.weightsAll P e l
 | [],i,d,h,_=>by simp at h
 | a::r,0,d,h,hm=>by
  cases h
  rw[DataW.weightsAll]
  exact List.mem_append_left _ hm
 | a::r,i+1,d,h,hm=>by
  rw[DataW.weightsAll]
  exact List.mem_append_right _ (rY (by simpa using h) hm)
theorem qY {α:Type}{P:Program}{t te:TypeId}{e:α→PV}{ok:α→Prop}(ht:P.underlying t=some (.slice te))(hs:P.cellsOf te=1)(hb:1≤P.bytesOf te)(hi:∀ a,(e a).cO=true)(h:Rdg P te e ok) :
  Rdg P t (fun l:List α=>.imm l.length false (l.map e)) (fun l=>l.length≤reachBytes∧∀ a ∈ l,ok a):=fun H enc W fuel cs x hx hw=>by
 rcases DataW.trod_slice ht hx with ⟨h1,-⟩| ⟨a,len,cap,elems,rest,n,-,h1,rfl,-,h3,h4,h5,h6,-,-⟩
 ·exact⟨[],_,h1,⟨Nat.zero_le _,by simp⟩,.nil _⟩
 ·have hw1:∀ (i:Nat) (hi:i<elems.length),∀ m ∈ DataW.weights P te (elems[i]).1,m≤reachBytes:=fun i hi m hm=>by
   refine hw m ?_
   simp only[DataW.weights,ht]
   refine List.mem_cons_of_mem _ (List.mem_append_left _ (rY (i:=i) (d:=(elems[i]).1) ?_ hm))
   rw[List.getElem?_map,List.getElem?_eq_getElem hi];rfl
  have hw2:len≤reachBytes:=by
   have:=hw ((elems.length+rest.length)*P.bytesOf te) (by simp only[DataW.weights,ht,List.length_map];exact List.mem_cons_self)
   refine Nat.le_trans ?_ this
   exact Nat.le_trans (by omega) (Nat.le_mul_of_pos_right _ hb)
  have hq:∀ i,i<len→∃ y,ok y∧a.spot=none∧∃ v,W.cell? ⟨a.block,a.off+i,none⟩=some v∧V W NoM [] NoL (e y) v:=fun i hil=>by
   have h7:=h6 i hil
   rw[List.getElem?_eq_getElem (by omega),Option.bind_eq_some_iff,hs,Nat.mul_one] at h7
   obtain⟨cs,h8,h9⟩:=h7
   obtain⟨y,v,h10,h11,h12⟩:=h H enc W n cs _ h9 (hw1 i (by omega))
   rw[h10] at h8
   have h13:=ChangeShapes.cell_of_cells?_one h8
   have h14:a.spot=none:=by
    rcases Nat.eq_zero_or_pos len with h0 | h0
    ·omega
    ·have h7:=h6 0 h0
     rw[List.getElem?_eq_getElem (by omega),Option.bind_eq_some_iff,hs,Nat.mul_one] at h7
     obtain⟨cs',h8',h9'⟩:=h7
     obtain⟨y',v',h10',-,-⟩:=h H enc W n cs' _ h9' (hw1 0 (by omega))
     rw[h10'] at h8'
     exact World.cell?_spot (ChangeShapes.cell_of_cells?_one h8')
   refine⟨y,h11,h14,v,?_,h12⟩
   rw[← h13]
   unfold Addr.add
   split
   ·rename_i h0;rw[h0];cases a;simp_all
   ·rfl
  obtain⟨l,hl,hg⟩:=Tb _ len hq
  subst hl
  have hk:∀ (k:Nat) c,(l.map e)[k]?=some c→∃ y,l[k]?=some y∧c=e y:=fun k c hc=>by
   rw[List.getElem?_map,Option.map_eq_some_iff] at hc
   obtain⟨y,h7,h8⟩:=hc
   exact⟨y,h7,h8.symm⟩
  refine⟨l,_,h1,⟨hw2,fun y hy => ?_⟩,.imm l.length false _ a cap (fun k=>(W.cell? ⟨a.block,a.off+k,none⟩).getD default) h3 nofun (fun k c hc => ?_) (fun k c hc => ?_)⟩
  ·obtain⟨i,hi1,hi2⟩:=List.mem_iff_getElem.mp hy
   exact (hg i y (by rw[List.getElem?_eq_getElem hi1,hi2])).1
  ·obtain⟨y,h7,rfl⟩:=hk k c hc
   obtain⟨-,h9,v,h10,-⟩:=hg k y h7
   exact⟨h9,hi y,fun hf=>hf,by simp[h10]⟩
  ·obtain⟨y,h7,rfl⟩:=hk k c hc
   obtain⟨-,h9,v,h10,h11⟩:=hg k y h7
   simp only[h10,Option.getD_some]
   exact h11
theorem It {α H:Type}{enc:TypeId × Value→H}{P:Program}{W:World}{t:TypeId}{e:α→PV}{ok:α→Prop}{v:Value}{d:DataW H}{ps:List MemPlace}(h:Rdg P t e ok)(hv:v.cells.toList=[v])(hx:DataW.Trod enc P W 0 (fun _=>true) true t v d ps)(hw:∀ n ∈ DataW.weights P t d,n≤reachBytes):∃ a,ok a∧V W NoM [] NoL (e a) v:=by
 obtain⟨fuel,hf⟩:=hx
 rw[hv] at hf
 obtain⟨a,u,h1,h2,h3⟩:=h H enc W fuel _ _ hf hw
 cases h1
 exact⟨a,h2,h3⟩
theorem wts {H:Type}{P:Program}{ts:List TypeId}{ds:List (DataW H)}(h:(DataW.weightsEach P ts ds).all (· ≤ reachBytes)=true)(j:Nat){t:TypeId}{d:DataW H}(ht:ts[j]?=some t)(hd:ds[j]?=some d):∀ n ∈ DataW.weights P t d,n≤reachBytes:=fun n hn=>by
 have:=List.all_eq_true.mp h n (DataW.weights_mem_each ht hd n hn)
 simpa using this
theorem xz {P:Program}{g:FuncId}(he:∀ (args:Array Value)(w:World),(callFunc g args).run P w = .ok (.enter g args) w){f:List PV→Option (List PV)}(h:Spec P g f){ws:List PV}(hf:f ws=some [.sc (.bool true)])(hi:cq ws=true){W:World}{vs:List Value}(hv:Vs W NoM [] NoL ws vs) :
  Calls P g vs.toArray W fun e w'=>e = .returned (.bool true)∧Below W.heap.size W w':=by
 obtain⟨-,h2⟩:=h ws _ hf hi
 have h3:=h2 W NoM vs (fun _ hf=>hf.elim) hv
 unfold iX at h3
 rw[he] at h3
 refine h3.mono fun e w' hh => ?_
 obtain⟨v,rfl,us,rfl,hv,ho⟩:=hh
 obtain⟨h4,h5⟩:=hv
 match us,h4 with
 | [u],_ =>
  have e1:=h5 0 _ u rfl rfl
  cases e1
  exact⟨rfl,ho.os,ho.tape,ho.output,ho.size,ho.same⟩
end Go.Ab
