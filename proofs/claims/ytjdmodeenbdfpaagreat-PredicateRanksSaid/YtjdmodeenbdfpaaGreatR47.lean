/- Contracts of the law and of what it calls, and facts about determinants, part 47 of the proof; each lemma states its own conditions. -/
import Derived.Test.YtjdmodeenbdfpaaGreatR43
import Derived.Test.YtjdmodeenbdfpaaGreatR46
import Derived.Test.YtjdmodeenbdfpaaGreatR42
set_option linter.unusedSimpArgs false
set_option linter.unusedVariables false
namespace Go.Proofs.YtjdmodeenbdfpaaGreat
open Go Go.Ab
theorem OD:base.shared 12=false:=by kernel_rfl
theorem aaj {L:Lst}(hL:bw L 12=fun a=>ib [] (aK a))(run:ar):aA L run 12 [] (.sc (.bool true)):=fun dr hp =>
 bu OD hL run dr hp _ [.sc (.bool true)] rfl rfl rfl
def e1n (n:Nat):List PV:=[iv n]
theorem aaD:Ec 1 e1n where
 len:=fun _=>rfl
 okc:=fun _=>rfl
 can:=fun _=>rfl
 idf:=fun _=>rfl
 sn:=fun _ _ _=>rfl
theorem ZA (l:List Nat):gU e1n l=aN l:=by
 unfold aN aE gU
 rw[List.length_map]
 congr 1
 induction l with
 | nil=>rfl
 | cons a l ih=>rw[List.map_cons,List.flatMap_cons,List.flatMap_cons,ih];rfl
theorem Ao {X:List (List Rat)}(h:0<X.length):∃ r,bc TT 23 (qC X) (.sc (.int .i64 0))=some (.iptr r)∧r.head?=some (qL X[0]):=by
 have hX':0<(X.map fun P=>P.map qb).length:=by simpa using h
 obtain⟨r',y1,y2⟩:=jP uCl (X.map fun P=>P.map qb) 0 hX'
 have e4:pE (X.map fun P=>P.map qb)[0]=qL X[0]:=by rw[List.getElem_map];rfl
 rw[e4] at y2
 exact⟨r',y1,y2⟩
theorem GH (P:List Rat):ef (qL P)=some P.length:=by simp[qL,pE,gU,ef]
theorem acZ (X:List (List Rat)):ef (qC X)=some X.length:=by simp[qC,cE,gU,ef]
theorem DF {L:Lst}{g:Nat}{f:List PV→Option (List PV)}(hs:base.shared g=false)(ho:bw L g=fun a=>f (aK a))(run:ar)(dr:Bool)(hp:List Blk)(args args' a rs:List PV)(ids:List Nat)
  (h1:bt (snap hp bp) args=some (args',ids)) (h2:aK args'=a) (h3:f a=some rs) (h4:rs.all eo=true):cg (CC L) run dr hp g args=some (iO rs,hp,⟨ids,[],false,false⟩):=by
 have h5:(CC L).orc g args'=some rs:=by
  show bw L g args'=_
  rw[ho];show f (aK args')=_;rw[h2,h3]
 exact lv hs h1 h5 h4
theorem aap {hp:List Blk}{b:Nat}{l:List Nat}{p:PV}(X:List (List Rat))(h:gC 1 e1n b hp l p):∃ q ids,bt (Ab.snap hp bp) [qC X,p]=some ([qC X,q],ids)∧aK [qC X,q]=[qC X,aN l]∧∀ z:PV,(Ab.snap hp 12 z=some (z,[])→bt (Ab.snap hp bp) [qC X,p,z]=some ([qC X,q,z],ids)):=by
 obtain⟨q,ids,h1,-,h3,-⟩:=h.snap aaD
 have hX:Ab.snap hp 12 (qC X)=some (qC X,[]):=rfl
 refine⟨q,ids,?_,?_,fun z hz => ?_⟩
 ·show bt (Ab.snap hp 12) _=_
  simp only[bt,hX,h1 10,List.append_nil,List.nil_append]
 ·simp only[aK,h3,ZA,qC,nC]
 ·show bt (Ab.snap hp 12) _=_
  simp only[bt,hX,h1 10,hz,List.append_nil,List.nil_append]
def pT (s t:ByteArray):PV:=.imm 2 true [.sc (.string s),.sc (.string t)]
def d3 (A B P:List Rat):PV:=.imm 3 true [qL A,qL B,qL P]
def d4 (A B P:List Rat)(s t:ByteArray):PV:=.imm 4 true [qL A,qL B,qL P,pT s t]
def sgS (S:List Bool):Nat→Bool
 | 0=>false
 | i+1=>if S.getD i false=true then sgS S i else !sgS S i
def exW (f:Nat→Rat)(r:List Rat)(S:List Bool):Nat→Rat
 | 0=>0
 | i+1=>exW f r S i+(if S.getD i false=true then 0 else bif sgS S i then -(r.getD i 0*f i) else r.getD i 0*f i)
def wz (n:Nat):List (List Rat)→List Bool→Rat
 | [],_=>1
 | r::rs,S=>exW (fun k=>wz n rs (S.set k true)) r S n
theorem Jd (f:Nat→Rat)(r:List Rat)(S:List Bool):∀ i,(exS f r S i).2=sgS S i∧vv (exS f r S i).1=exW f r S i
 | 0=>⟨rfl,rfl⟩
 | i+1=>by
  obtain⟨h1,h2⟩:=Jd f r S i
  unfold exS sgS exW
  by_cases hs:S.getD i false=true
  ·rw[if_pos hs,if_pos hs,if_pos hs]
   exact⟨h1,by rw[h2,Rat.add_zero]⟩
  ·rw[if_neg hs,if_neg hs,if_neg hs]
   by_cases h0:r.getD i 0=0
   ·rw[if_pos h0,h0,Rat.zero_mul]
    refine⟨by rw[h1],?_⟩
    show vv (exS f r S i).1=_
    rw[h2]
    cases sgS S i <;> simp[Rat.add_zero]
   ·rw[if_neg h0]
    refine⟨by rw[h1],?_⟩
    show vv (exS f r S i).1+_=_
    rw[h1,h2]
theorem Jc (n:Nat):∀ (rows:List (List Rat)) (S:List Bool),vv (exU n rows S)=wz n rows S
 | [],S=>rfl
 | r::rs,S=>by
  unfold exU wz
  rw[(Jd _ r S n).2]
  congr 1
  funext k
  exact Jc n rs _
def xw (M:List (List Rat)):Rat:=wz M.length M (List.replicate M.length false)
theorem TN (M:List (List Rat)):vv (wJ M)=xw M:=Jc _ _ _
theorem afn (r:List Rat):xw [r]=r.getD 0 0:=by
 simp[xw,wz,exW,sgS]
 try grind
theorem afm (r s:List Rat):xw [r,s]=r.getD 0 0*s.getD 1 0 - r.getD 1 0*s.getD 0 0:=by
 simp[xw,wz,exW,sgS]
 try grind
theorem afl (r s t:List Rat):xw [r,s,t]=r.getD 0 0*(s.getD 1 0*t.getD 2 0 - s.getD 2 0*t.getD 1 0) - r.getD 1 0*(s.getD 0 0*t.getD 2 0 - s.getD 2 0*t.getD 0 0)+r.getD 2 0*(s.getD 0 0*t.getD 1 0 - s.getD 1 0*t.getD 0 0):=by
 simp[xw,wz,exW,sgS]
 try grind
theorem Nb.sub {k:Nat}{x y:Int}(h:Nb k x)(h':Nb k y):Nb (k+1) (x - y):=by rw[Int.sub_eq_add_neg];exact h.add h'.neg
theorem toNat_ofNat (l:List Nat):(l.map Int.ofNat).map Int.toNat=l:=by
 rw[List.map_map]
 conv=>rhs;rw[← List.map_id l]
 exact List.map_congr_left fun x _=>rfl
theorem M5 {c:List (List ByteArray)}{l:List Nat}(h:chk c=0)(hl:l.length=mi c+1)(hin:∀ i ∈ l,i<c.length):kH c (l.map Int.ofNat) ((mi c+1:Nat):Int)=0:=by
 unfold kH
 rw[if_neg (fun e=>e h),if_neg (by rw[List.length_map,hl];omega)]
 have:(l.map Int.ofNat).any (rS c.length)=false:=by
  rw[List.any_eq_false]
  intro z hz
  obtain⟨i,hi,rfl⟩:=List.mem_map.1 hz
  have:=hin i hi
  unfold rS
  simp only[Bool.or_eq_true,decide_eq_true_eq,not_or]
  constructor
  ·exact Int.not_lt.2 (Int.natCast_nonneg i)
  ·show ¬ ((c.length:Int)≤(i:Int))
   omega
 rw[this];rfl
theorem MU {c:List (List ByteArray)}{l:List Nat}(h:chk c=0)(hl:l.length=mi c+1)(hin:∀ i ∈ l,i<c.length):mf c (l.map Int.ofNat)=(wJ (dq (toX c) l),0):=by
 unfold mf
 rw[if_pos (M5 h hl hin),toNat_ofNat]
theorem KE {x:Rat}(h:x<0):kV x = -1:=by
 have : ¬ 0≤x.num:=fun h'=>by
  have:=Rat.num_nonneg.1 h'
  grind
 exact Int.sign_eq_neg_one_of_neg (by omega)
theorem O6 {x:Rat}(h:0<x):kV x=1:=by
 have h1:=Rat.num_nonneg.2 (show 0≤x by grind)
 have h2:x.num≠0:=fun e=>by
  have:=Rat.num_eq_zero.1 e
  grind
 exact Int.sign_eq_one_of_pos (by omega)
theorem E8 (x:Rat):(x<0∧kV x = -1)∨(x=0∧kV x=0)∨(0<x∧kV x=1):=by
 by_cases h:x<0
 ·exact .inl ⟨h,KE h⟩
 ·by_cases h0:x=0
  ·exact .inr (.inl ⟨h0,by rw[h0];rfl⟩)
  ·have:0<x:=by grind
   exact .inr (.inr ⟨this,O6 this⟩)
theorem O7 {x:Rat} : kV x=0 ↔ x=0:=by
 rcases E8 x with ⟨h1,h2⟩| ⟨h1,h2⟩| ⟨h1,h2⟩ <;> rw[h2]
 ·constructor
  ·intro h;cases h
  ·intro h;grind
 ·exact⟨fun _=>h1,fun _=>rfl⟩
 ·constructor
  ·intro h;cases h
  ·intro h;grind
theorem Rb.inv {k:Nat}{y:Rat}(h:Rb k y)(h0:y≠0):Rb k y⁻¹:=by
 have hn:y.num≠0:=fun e=>h0 (Rat.num_eq_zero.1 e)
 have e:y⁻¹=Rat.inv y:=rfl
 rw[e]
 unfold Rat.inv
 split
 ·refine⟨?_,?_⟩
  ·show Nb k (-(y.den:Int))
   exact h.2.neg
  ·show Nb k ((y.num.natAbs:Nat):Int)
   have:=h.1
   unfold Nb at *
   simpa using this
 ·split
  ·refine⟨h.2,?_⟩
   show Nb k ((y.num.natAbs:Nat):Int)
   have:=h.1
   unfold Nb at *
   simpa using this
  ·exact h
theorem Rb.div {j k:Nat}{x y:Rat}(h:Rb j x)(h':Rb k y)(h0:y≠0):Rb (j+k) (x / y):=by
 rw[Rat.div_def];exact h.mul (h'.inv h0)
noncomputable def RT:Code:=seq1 nkJ
noncomputable def RS:Code:=seq1 (ah 1 nkJ)
noncomputable def RN:Code:=cA (ah 2 gZ)
theorem acm:nkJ = .seq RT (.seq RS (.cond (.tmp 85) nkT .skip)):=rfl
theorem aco:ah 2 gZ = .seq (.block 3 nkJ) RN:=rfl
theorem ace (L:Lst)(run:ar)(k:Nat)(fr:List PV)(hp:List Blk)(wr:List Nat)(n j:Nat)(hj:j<n)(h0:fr.length=126)(h74:nth fr 74=iv n)(h75:nth fr 75=iv j):aY (CC L) run k 2 gZ ⟨fr,hp,wr⟩=some ⟨fm fr 76 (.sc (.bool true)),hp,wr⟩:=by
 simp only[iv] at h74 h75
 simp[aY,gZ,nkI,nkB,nkC,Tryz.f17,ah,seq1,blk,az,af,aJ,ao,aq,aH,ag,ai,aj,an,aF,aC,FP.none,bd,au,bj,aa,h0,h74,h75,hj]
theorem Yr (L:Lst)(run:ar)(k:Nat)(fr:List PV)(hp:List Blk)(wr:List Nat)(n:Nat)(h0:fr.length=126)(h74:nth fr 74=iv n)(h75:nth fr 75=iv n):af (CC L) run k gZ ⟨fr,hp,wr⟩=some (.exit 2,⟨fm fr 76 (.sc (.bool false)),hp,wr⟩):=by
 simp only[iv] at h74 h75
 simp[gZ,nkI,nkB,nkC,Tryz.f17,ah,seq1,blk,az,af,aJ,ao,aq,aH,ag,ai,aj,an,aF,aC,FP.none,bd,au,bj,aa,h0,h74,h75]
theorem Yo (L:Lst)(run:ar)(k:Nat)(fr:List PV)(hp:List Blk)(wr:List Nat)(j:Nat)(hj:j<1000)(h0:fr.length=126)(h75:nth fr 75=iv j):∃ fr',af (CC L) run k RN ⟨fr,hp,wr⟩=some (.normal,⟨fr',hp,wr⟩)∧nth fr' 75=iv (j+1):=by
 have hw:=bE j (by omega)
 simp only[iv] at h75
 simp[iv,RN,gZ,nkI,nkB,nkC,Tryz.f17,ah,seq1,cA,blk,az,af,aJ,ao,aq,aH,ag,ai,aj,an,aF,aC,FP.none,bd,au,bj,aw,aa,ab,h0,h75,hw]
theorem ab5 (L:Lst)(run:ar)(k:Nat)(fr:List PV)(hp:List Blk)(wr:List Nat)(mid r n i:Nat)(x:Bool)(ps:List PV)(v:PV)(hi:i<n)(hm:aV hp mid=some ⟨.live,ps⟩)(hv:ps[r+i]?=some v)(hok:dw v=true)(h0:fr.length=126)(h73:nth fr 73 = .own mid 1 r n x)(h75:nth fr 75=iv i) :
  ∃ fr',af (CC L) run k RT ⟨fr,hp,wr⟩=some (.normal,⟨fr',hp,wr⟩)∧nth fr' 12=iv i∧nth fr' 13=v:=by
 have x1:bc TT 80 (.own mid 1 r n x) (.sc (.int .i64 (i:Int)))=some (.ptr mid (r+i)):=by
  simp only[bc,kQ,bm,pA,hi,if_true,Nat.mul_one,and_self]
 have hd:(br ps (r+i)).head?=some v:=by rw[cL,List.head?_drop,hv]
 simp only[iv] at h75
 simp[iv,RT,nkJ,gZ,nkI,nkB,nkC,Tryz.f17,ah,seq1,blk,az,af,aJ,ao,aq,aH,ag,ai,aj,an,aF,aC,FP.none,partOf,aa,ae,ab,bh,h0,h73,h75,x1,hm,hd,aU,UJ,pA]
theorem ab4 (L:Lst)(run:ar)(k:Nat)(fr:List PV)(hp:List Blk)(wr:List Nat)(q:PV)(V:List Rat)(b kk:Nat)(s:Int)(h2:kk<V.length)(hq:eg hp q V)(hb:aV hp b=some ⟨.live,[iv kk]⟩)(g:aA L run 49 [.agg (rcs V[kk])] (Ab.bJ s))(h0:fr.length=126)(h9:nth fr 9 = .ptr b 0)(h13:nth fr 13=q) :
  ∃ fr',af (CC L) run k RS ⟨fr,hp,wr⟩=some (.normal,⟨fr',hp,wr⟩)∧nth fr' 85 = .sc (.bool (s != 0)):=by
 obtain⟨a,r,ids,x1,x2,x3⟩:=hq.ix kk h2
 have hb':=Jo hb
 unfold aA at g
 simp only[Ab.bJ] at g
 have hok:=cG.okc V[kk]
 generalize rcs V[kk]=c at *
 simp only[iv] at hb'
 simp[RS,nkJ,gZ,nkI,nkB,nkC,Tryz.f17,ah,seq1,blk,az,af,aJ,ao,aq,aH,ag,ai,aQ,aj,an,aF,aC,FP.none,bd,au,bj,aw,partOf,aa,ae,ab,bh,h0,h9,h13,hb',x1,x2,x3,g,sI,aI,aR,sR]
def Rws (hp:List Blk)(mid N:Nat)(g:Nat→List Rat):Prop:=∃ ps,aV hp mid=some ⟨.live,ps⟩∧N≤ps.length∧∀ t,t<N→∃ v,ps[t]?=some v∧tB hp mid v (g t)
theorem Hgr.to {a b:List Blk}(h:Hgr a b)(w:Nat):Hex a b w:=⟨h.1,fun i hi _=>h.2 i hi⟩
theorem tB.gr {hp hp':List Blk}{mid:Nat}{p:PV}{X:List Rat}(h:tB hp mid p X)(ho:Hgr hp hp'):tB hp' mid p X:=h.mono fun i hi _=>ho.2 i hi
theorem Rws.gr {hp hp':List Blk}{mid N:Nat}{g:Nat→List Rat}(h:Rws hp mid N g)(ho:Hgr hp hp'):Rws hp' mid N g:=by
 obtain⟨ps,h1,h2,h3⟩:=h
 refine⟨ps,by rw[ho.2 _ (fI h1),h1],h2,fun t ht => ?_⟩
 obtain⟨v,h4,h5⟩:=h3 t ht
 exact⟨v,h4,h5.gr ho⟩
theorem Rws.put {hp:List Blk}{mid N t:Nat}{g:Nat→List Rat}{ps:List PV}{w:PV}{W:List Rat}(h1:aV hp mid=some ⟨.live,ps⟩)(h2:N≤ps.length)(h3:∀ s,s<N→s≠t→∃ v,ps[s]?=some v∧tB hp mid v (g s))(hw:tB hp mid w W)(ht:t<N):Rws (bO hp mid ⟨.live,ps.set t w⟩) mid N (fun s=>if s=t then W else g s):=by
 have hk:∀ i,i<hp.length→i≠mid→aV (bO hp mid ⟨.live,ps.set t w⟩) i=aV hp i:=fun i _ hn=>lI h1 hn
 refine⟨ps.set t w,jG h1,by rw[List.length_set];exact h2,fun s hs => ?_⟩
 by_cases e:s=t
 ·subst e
  refine⟨w,by rw[List.getElem?_set_self (by omega)],?_⟩
  dsimp only
  rw[if_pos rfl]
  exact hw.mono hk
 ·obtain⟨v,h4,h5⟩:=h3 s hs e
  refine⟨v,by rw[List.getElem?_set_ne (Ne.symm e),h4],?_⟩
  dsimp only
  rw[if_neg e]
  exact h5.mono hk
def xn (kk:Nat)(P V:List Rat):List Rat:=if V.getD kk 0=0 then V else lA (V.getD kk 0 / P.getD kk 0) V P
def jK (kk r i:Nat)(P:List Rat)(g:Nat→List Rat)(t:Nat):List Rat:=if r≤t∧t<r+i then xn kk P (g t) else g t
theorem iC {X:List Rat}{i:Nat}(h:i<X.length):X.getD i 0=X[i]:=by rw[List.getD_eq_getElem?_getD,List.getElem?_eq_getElem h];rfl
theorem VB {P V:List Rat}{b c:Nat}{f:Rat}(hf:Rb c f)(hP:RbL b P)(hV:RbL b V):RbL (c+2*b+1) (lA f V P):=by
 intro x hx
 unfold lA at hx
 rw[List.mem_iff_getElem] at hx
 obtain⟨i,hi,rfl⟩:=hx
 rw[List.length_zipWith] at hi
 rw[List.getElem_zipWith]
 exact ((hV _ (List.getElem_mem (by omega))).sub (hf.mul (hP _ (List.getElem_mem (by omega))))).mono (by omega)
theorem Wu {P V:List Rat}{kk b:Nat}(hk:kk<P.length)(hkV:kk<V.length)(h0:P.getD kk 0≠0)(hP:RbL b P)(hV:RbL b V):RbL (4*b+1) (xn kk P V):=by
 unfold xn
 split
 ·exact fun x hx=>(hV x hx).mono (by omega)
 ·have hf:Rb (b+b) (V.getD kk 0 / P.getD kk 0):=by
   refine Rb.div ?_ ?_ h0
   ·rw[iC hkV];exact hV _ (List.getElem_mem _)
   ·rw[iC hk];exact hP _ (List.getElem_mem _)
  exact fun x hx=>(VB hf hP hV x hx).mono (by omega)
theorem Pk {P V:List Rat}{kk n:Nat}(hP:P.length=n)(hV:V.length=n):(xn kk P V).length=n:=by
 unfold xn
 split
 ·exact hV
 ·rw[mF (by omega),hP]
structure NkC (L:Lst):Prop where
 sg:bw L 49=fun a=>iq (aK a)
 qu:bw L 54=fun a=>Ir (aK a)
 mu:bw L 56=fun a=>j8 (aK a)
 su:bw L 55=fun a=>mM (aK a)
theorem aea {L:Lst}(hL:bw L 55=fun a=>mM (aK a))(run:ar){u v:Option Rat}{j k:Nat}(hu:Rb j (vv u))(hv:Rb k (vv v))(h:j+k≤1000000):aA L run 55 [rv u,rv v] (rv (some (vv u - vv v))):=fun dr hh =>
 jW Il hL run dr hh _ _ [rv (some (vv u - vv v))] (uv hh u v) (rO u v) (BN hu hv h)
theorem Yi (L:Lst)(run:ar)(k:Nat)(hL:NkC L)(fr:List PV)(hp:List Blk)(wr:List Nat)(p:PV)(P:List Rat)(g:Nat→List Rat)(b kk mid N r n bb:Nat)(x x':Bool)(hP:P.length=n)(hn:n≤3)(hk:n<k)(hk2:N - r<k)(hkk:kk<n)(hp':eg hp p P)(hP0:P[kk]'(by omega)≠0)(hPb:RbL bb P)(hbb:bb≤100000)(hg:∀ t,t<N→(g t).length=n∧RbL bb (g t))(hb:aV hp b=some ⟨.live,[iv kk]⟩)(hbm:b≠mid)(hr:r≤N)(hN:N≤999)(hR:Rws hp mid N g)(hpm:p ≠ .own mid 4 0 n true)
  (h0:fr.length=126) (h7:nth fr 7 = .own mid 1 0 N x) (h8:nth fr 8=iv r) (h9:nth fr 9 = .ptr b 0) (h11:nth fr 11=p) (h73:nth fr 73 = .own mid 1 r (N - r) x') (h74:nth fr 74=iv (N - r)) (h75:nth fr 75=iv 0) :
  ∃ fr' hp' wr',af (CC L) run k (.block 2 (.loop gZ)) ⟨fr,hp,wr⟩=some (.normal,⟨fr',hp',wr'⟩)∧Hex hp hp' mid∧Rws hp' mid N (jK kk r (N - r) P g):=by
 obtain⟨st,b1,b2⟩:=pX (C:=CC L) (run:=run) (k:=k) (e:=2) (b:=gZ) (n:=N - r) (st:=⟨fr,hp,wr⟩)
  (Inv:=fun i st=>gD (gL gZ) fr st.fr∧nth st.fr 75=iv i∧Hex hp st.hp mid∧Rws st.hp mid N (jK kk r i P g))
  (Q:=fun st=>Hex hp st.hp mid∧Rws st.hp mid N (jK kk r (N - r) P g)) hk2
  (fun i st hi ⟨k1,k2,k3,k4⟩=>by
   obtain⟨fr1,hp1,wr1⟩:=st
   dsimp only at k1 k2 k3 k4
   have c0:=k1.len h0
   have e7:nth fr1 7 = .own mid 1 0 N x:=k1.at h7 (by kernel_rfl)
   have e8:nth fr1 8=iv r:=k1.at h8 (by kernel_rfl)
   have e9:nth fr1 9 = .ptr b 0:=k1.at h9 (by kernel_rfl)
   have e11:nth fr1 11=p:=k1.at h11 (by kernel_rfl)
   have e73:nth fr1 73 = .own mid 1 r (N - r) x':=k1.at h73 (by kernel_rfl)
   have e74:nth fr1 74=iv (N - r):=k1.at h74 (by kernel_rfl)
   have gg:=ace L run k fr1 hp1 wr1 (N - r) i hi c0 e74 k2
   have s0:(fm fr1 76 (.sc (.bool true))).length=126:=by rw[ab];exact c0
   have s1:∀ t,t≠76→nth (fm fr1 76 (.sc (.bool true))) t=nth fr1 t:=fun t ht=>ae ht
   obtain⟨ps,q1,q2,q3⟩:=k4
   obtain⟨v,v1,v2⟩:=q3 (r+i) (by omega)
   have ev:jK kk r i P g (r+i)=g (r+i):=by unfold jK;rw[if_neg (by omega)]
   rw[ev] at v2
   obtain⟨gl,gb⟩:=hg (r+i) (by omega)
   generalize hV:g (r+i)=V at *
   have hva:=v2.at
   obtain⟨fr2,a1,a2,a3⟩:=ab5 L run k (fm fr1 76 (.sc (.bool true))) hp1 wr1 mid r (N - r) i x' ps v hi q1 v1 hva.ok s0 ((s1 73 (by omega)).trans e73) ((s1 75 (by omega)).trans k2)
   have K2:=bT _ a1
   have f0:=K2.len s0
   have f9:nth fr2 9 = .ptr b 0:=K2.at ((s1 9 (by omega)).trans e9) (by kernel_rfl)
   have hb1:aV hp1 b=some ⟨.live,[iv kk]⟩:=by rw[k3.2 b (fI hb) hbm,hb]
   have hVk:kk<V.length:=by omega
   obtain⟨fr3,d1,d2⟩:=ab4 L run k fr2 hp1 wr1 v V b kk (kV V[kk]) hVk hva hb1 (AU hL.sg run (p:=.agg (rcs V[kk])) (u:=some V[kk]) (.inl rfl) (gb _ (List.getElem_mem _)) (by omega)) f0 f9 a3
   have K3:=bT _ d1
   rw[zS] at d2
   have fin:∀ (fr5:List PV) (hp5:List Blk) (wr5:List Nat),af (CC L) run k (.cond (.tmp 85) nkT .skip) ⟨fr3,hp1,wr1⟩=some (.normal,⟨fr5,hp5,wr5⟩)→Hex hp1 hp5 mid→Rws hp5 mid N (jK kk r (i+1) P g)→∃ st',af (CC L) run k gZ ⟨fr1,hp1,wr1⟩=some (.normal,st')∧gD (gL gZ) fr st'.fr∧nth st'.fr 75=iv (i+1)∧Hex hp st'.hp mid∧Rws st'.hp mid N (jK kk r (i+1) P g):=by
    intro fr5 hp5 wr5 u1 u2 u3
    have hx:af (CC L) run k (.block 3 nkJ) ⟨fm fr1 76 (.sc (.bool true)),hp1,wr1⟩=some (.normal,⟨fr5,hp5,wr5⟩):=by
     refine dW ?_
     rw[acm,av a1,av d1];exact u1
    have K5:=bT _ hx
    obtain⟨fr6,g1,g2⟩:=Yo L run k fr5 hp5 wr5 i (by omega) (K5.len s0) (K5.at ((s1 75 (by omega)).trans k2) (by kernel_rfl))
    have hall:af (CC L) run k gZ ⟨fr1,hp1,wr1⟩=some (.normal,⟨fr6,hp5,wr5⟩):=by
     rw[aP 2 gg,aco,av hx];exact g1
    exact⟨_,hall,k1.trans (bT _ hall),g2,k3.trans u2,u3⟩
   by_cases hz:V[kk]=0
   ·refine fin fr3 hp1 wr1 ?_ (Hex.refl _ _) ⟨ps,q1,q2,fun t ht => ?_⟩
    ·rw[hz] at d2
     simp[af,an,d2]
    ·obtain⟨v',w1,w2⟩:=q3 t ht
     refine⟨v',w1,?_⟩
     have:jK kk r (i+1) P g t=jK kk r i P g t:=by
      by_cases e:t=r+i
      ·subst e
       unfold jK xn
       rw[if_pos (show r≤r+i∧r+i<r+(i+1) by omega),if_neg (show ¬ (r≤r+i∧r+i<r+i) by omega),hV,if_pos (by rw[iC hVk];exact hz)]
      ·unfold jK
       by_cases e2:r≤t∧t<r+i
       ·rw[if_pos e2,if_pos (by omega)]
       ·rw[if_neg e2,if_neg (by omega)]
     rw[this];exact w2
   ·have hpP:eg hp1 p P:=hp'.mono k3 (by rw[hP];exact hpm)
    have bV:∀ j (h:j<V.length),Rb bb V[j]:=fun j h=>gb _ (List.getElem_mem h)
    have bP:∀ j (h:j<P.length),Rb bb P[j]:=fun j h=>hPb _ (List.getElem_mem h)
    have bf:Rb (bb+bb) (V[kk] / P[kk]'(by omega)):=(bV _ _).div (bP _ _) hP0
    obtain⟨fr4,hp4,wr4,w,t1,t2,t3,t4⟩:=afO L run k fr3 hp1 wr1 p v P V b kk mid N r i n x ps (V[kk] / P[kk]'(by omega)) hP gl hn hk hkk hpP hva hb1 (by omega) (by omega) q1 q2 (aeg hL.qu run (u:=some V[kk]) (v:=some (P[kk]'(by omega))) (bV _ _) (bP _ _) (by omega) (by omega) hP0)
     (fun j h=>Hz hL.mu run (u:=some _) (v:=some P[j]) (.inl rfl) (.inl rfl) bf (bP j h) (by omega))
     (fun j h h'=>aea hL.su run (u:=some V[j]) (v:=some _) (bV j h') (bf.mul (bP j h)) (by omega))
     (K3.len f0) (K3.at (K2.at ((s1 7 (by omega)).trans e7) (by kernel_rfl)) (by kernel_rfl)) (K3.at (K2.at ((s1 8 (by omega)).trans e8) (by kernel_rfl)) (by kernel_rfl)) (K3.at f9 (by kernel_rfl)) (K3.at (K2.at ((s1 11 (by omega)).trans e11) (by kernel_rfl)) (by kernel_rfl)) (K3.at a2 (by kernel_rfl)) (K3.at a3 (by kernel_rfl))
    have hm4:aV hp4 mid=some ⟨.live,ps⟩:=by rw[t2.2 mid (fI q1),q1]
    refine fin fr4 (bO hp4 mid ⟨.live,ps.set (r+i) w⟩) wr4 ?_ ((t2.to mid).trans (Hex.set hm4)) ?_
    ·rw[show decide (V[kk]=0)=false from decide_eq_false hz] at d2
     simp only[Bool.not_false] at d2
     simp only[af,an,d2]
     exact t1
    ·have:=Rws.put (g:=jK kk r i P g) (W:=lA (V[kk] / P[kk]'(by omega)) V P) hm4 q2 (fun s hs _=>by
      obtain⟨v',w1,w2⟩:=q3 s hs
      exact⟨v',w1,w2.gr t2⟩) t3 (show r+i<N by omega)
     have e:(fun s=>if s=r+i then lA (V[kk] / P[kk]'(by omega)) V P else jK kk r i P g s)=jK kk r (i+1) P g:=by
      funext t
      by_cases e:t=r+i
      ·subst e
       unfold jK xn
       rw[if_pos rfl,if_pos (by omega),hV,if_neg (by rw[iC hVk];exact hz),iC hVk,iC (by omega)]
      ·rw[if_neg e]
       unfold jK
       by_cases e2:r≤t∧t<r+i
       ·rw[if_pos e2,if_pos (by omega)]
       ·rw[if_neg e2,if_neg (by omega)]
     rw[← e];exact this)
  (fun st ⟨k1,k2,k3,k4⟩=>by
   obtain⟨fr1,hp1,wr1⟩:=st
   dsimp only at k1 k2 k3 k4
   have g:=Yr L run k fr1 hp1 wr1 (N - r) (k1.len h0) (k1.at h74 (by kernel_rfl)) k2
   exact⟨_,g,k3,k4⟩)
  ⟨gD.refl _ _,h75,Hex.refl _ _,by
   have:jK kk r 0 P g=g:=by
    funext t
    unfold jK
    rw[if_neg (by omega)]
   dsimp only
   rw[this];exact hR⟩
 obtain⟨fr',hp2,wr'⟩:=st
 exact⟨fr',hp2,wr',b1,b2⟩
def cr1 (a b:List Rat):Rat:=a.getD 1 0*b.getD 2 0 - a.getD 2 0*b.getD 1 0
def cr2 (a b:List Rat):Rat:=a.getD 2 0*b.getD 0 0 - a.getD 0 0*b.getD 2 0
def cr3 (a b:List Rat):Rat:=a.getD 0 0*b.getD 1 0 - a.getD 1 0*b.getD 0 0
def tri (a b c:List Rat):Rat:=a.getD 0 0*cr1 b c+a.getD 1 0*cr2 b c+a.getD 2 0*cr3 b c
def nz (a:List Rat):Prop:=a.getD 0 0≠0∨a.getD 1 0≠0∨a.getD 2 0≠0
def tv (a b:List Rat):Prop:=cr1 a b≠0∨cr2 a b≠0∨cr3 a b≠0
def Q1 (M:List (List Rat)):Prop:=∃ a,a ∈ M∧nz a
def Q2 (M:List (List Rat)):Prop:=∃ a,a ∈ M∧∃ b,b ∈ M∧tv a b
def Q3 (M:List (List Rat)):Prop:=∃ a,a ∈ M∧∃ b,b ∈ M∧∃ c,c ∈ M∧tri a b c≠0
open Classical in
noncomputable def rkM (M:List (List Rat)):Nat:=if Q3 M then 3 else if Q2 M then 2 else if Q1 M then 1 else 0
theorem Gm {a:List Rat}(h : ¬ nz a):a.getD 0 0=0∧a.getD 1 0=0∧a.getD 2 0=0:=by
 unfold nz at h
 exact⟨Classical.byContradiction fun e=>h (.inl e),Classical.byContradiction fun e=>h (.inr (.inl e)),Classical.byContradiction fun e=>h (.inr (.inr e))⟩
theorem pP {a b:List Rat}(h : ¬ tv a b):cr1 a b=0∧cr2 a b=0∧cr3 a b=0:=by
 unfold tv at h
 exact⟨Classical.byContradiction fun e=>h (.inl e),Classical.byContradiction fun e=>h (.inr (.inl e)),Classical.byContradiction fun e=>h (.inr (.inr e))⟩
theorem Q3.q2 {M:List (List Rat)}(h:Q3 M):Q2 M:=by
 obtain⟨a,ha,b,hb,c,hc,h⟩:=h
 refine Classical.byContradiction fun hn=>h ?_
 have : ¬ tv b c:=fun e=>hn ⟨b,hb,c,hc,e⟩
 obtain⟨e1,e2,e3⟩:=pP this
 unfold tri
 rw[e1,e2,e3]
 grind
theorem Q2.q1 {M:List (List Rat)}(h:Q2 M):Q1 M:=by
 obtain⟨a,ha,b,hb,h⟩:=h
 refine Classical.byContradiction fun hn => ?_
 obtain⟨e1,e2,e3⟩:=Gm (a:=a) fun e=>hn ⟨a,ha,e⟩
 unfold tv cr1 cr2 cr3 at h
 rw[e1,e2,e3] at h
 grind
theorem zV {M:List (List Rat)}(h:Q3 M):rkM M=3:=by unfold rkM;rw[if_pos h]
theorem Fc {M:List (List Rat)}(h : ¬ Q3 M)(h2:Q2 M):rkM M=2:=by unfold rkM;rw[if_neg h,if_pos h2]
theorem Fe {M:List (List Rat)}(h : ¬ Q2 M)(h2:Q1 M):rkM M=1:=by unfold rkM;rw[if_neg (fun e=>h e.q2),if_neg h,if_pos h2]
theorem qT {M:List (List Rat)}(h : ¬ Q1 M):rkM M=0:=by unfold rkM;rw[if_neg (fun e=>h e.q2.q1),if_neg (fun e=>h e.q1),if_neg h]
def Red (k:Nat)(p s r:List Rat):Prop:=∀ i,r.getD i 0=s.getD i 0 - s.getD k 0 / p.getD k 0*p.getD i 0
theorem H7 {p s u r t:List Rat}{k:Nat}(h:Red k p s r)(h':Red k p u t):tri p s u=tri p r t:=by
 have a0:=h 0;have a1:=h 1;have a2:=h 2
 have b0:=h' 0;have b1:=h' 1;have b2:=h' 2
 generalize s.getD k 0 / p.getD k 0=x at *
 generalize u.getD k 0 / p.getD k 0=y at *
 unfold tri cr1 cr2 cr3
 rw[a0,a1,a2,b0,b1,b2]
 grind
theorem Red.zero {p s r:List Rat}{k:Nat}(h:Red k p s r)(hp:p.getD k 0≠0):r.getD k 0=0:=by
 rw[h k,Rat.div_mul_cancel hp]
 grind
theorem Ob {k:Nat}(hk:k<3){p r t:List Rat}(hr:r.getD k 0=0)(ht:t.getD k 0=0):tri p r t=p.getD k 0*(if k=0 then cr1 r t else if k=1 then cr2 r t else cr3 r t):=by
 have:k=0∨k=1∨k=2:=by omega
 rcases this with rfl | rfl | rfl <;> simp[tri,cr1,cr2,cr3] <;> grind
theorem Ew (p a b c:List Rat)(i:Nat)(hi:i<3):p.getD i 0*tri a b c=a.getD i 0*tri p b c - b.getD i 0*tri p a c+c.getD i 0*tri p a b:=by
 have:i=0∨i=1∨i=2:=by omega
 rcases this with rfl | rfl | rfl <;> simp only[tri,cr1,cr2,cr3] <;> grind
structure rX (k:Nat) (p:List Rat) (M R:List (List Rat)):Prop where
 mem:p ∈ M
 piv:p.getD k 0≠0
 fwd:∀ r,r ∈ R→∃ s,s ∈ M∧Red k p s r
 bwd:∀ s,s ∈ M→s=p∨∃ r,r ∈ R∧Red k p s r
theorem Red.mul {p s r:List Rat}{k:Nat}(h:Red k p s r)(hp:p.getD k 0≠0)(i:Nat):p.getD k 0*r.getD i 0=p.getD k 0*s.getD i 0 - s.getD k 0*p.getD i 0:=by
 have e:s.getD k 0 / p.getD k 0*p.getD k 0=s.getD k 0:=Rat.div_mul_cancel hp
 rw[h i]
 generalize s.getD k 0 / p.getD k 0=x at *
 rw[← e]
 grind
theorem Sc {x y:Rat}(hx:x≠0)(h:x*y=0):y=0:=by
 rcases Rat.mul_eq_zero.1 h with e | e
 ·exact absurd e hx
 ·exact e
theorem rX.q12 {k:Nat}(hk:k<3){p:List Rat}{M R:List (List Rat)}(h:rX k p M R):Q1 R→Q2 M:=by
 rintro⟨r,hr,hn⟩
 obtain⟨s,hs,hd⟩:=h.fwd r hr
 refine Classical.byContradiction fun e => ?_
 obtain⟨e1,e2,e3⟩:=pP (a:=p) (b:=s) fun e'=>e ⟨p,h.mem,s,hs,e'⟩
 have m0:=hd.mul h.piv 0
 have m1:=hd.mul h.piv 1
 have m2:=hd.mul h.piv 2
 have hz:∀ i,p.getD k 0*r.getD i 0=0→r.getD i 0=0:=fun i=>Sc h.piv
 unfold cr1 at e1
 unfold cr2 at e2
 unfold cr3 at e3
 have:k=0∨k=1∨k=2:=by omega
 have z0:r.getD 0 0=0:=hz 0 (by rw[m0];rcases this with rfl | rfl | rfl <;> grind)
 have z1:r.getD 1 0=0:=hz 1 (by rw[m1];rcases this with rfl | rfl | rfl <;> grind)
 have z2:r.getD 2 0=0:=hz 2 (by rw[m2];rcases this with rfl | rfl | rfl <;> grind)
 rcases hn with e | e | e
 ·exact e z0
 ·exact e z1
 ·exact e z2
theorem rX.q21 {k:Nat}{p:List Rat}{M R:List (List Rat)}(h:rX k p M R):Q2 M→Q1 R:=by
 rintro⟨a,ha,b,hb,hi⟩
 refine Classical.byContradiction fun e => ?_
 have key:∀ s,s ∈ M→∀ i,i<3→p.getD k 0*s.getD i 0=s.getD k 0*p.getD i 0:=fun s hs i hi=>by
  rcases h.bwd s hs with rfl | ⟨r,hr,hd⟩
  ·rfl
  ·obtain⟨z0,z1,z2⟩:=Gm (a:=r) fun e'=>e ⟨r,hr,e'⟩
   have m:=hd.mul h.piv i
   have:r.getD i 0=0:=by
    have:i=0∨i=1∨i=2:=by omega
    rcases this with rfl | rfl | rfl <;> assumption
   rw[this,Rat.mul_zero] at m
   grind
 have a0:=key a ha 0 (by omega)
 have a1:=key a ha 1 (by omega)
 have a2:=key a ha 2 (by omega)
 have b0:=key b hb 0 (by omega)
 have b1:=key b hb 1 (by omega)
 have b2:=key b hb 2 (by omega)
 have hp:=h.piv
 have g:∀ x:Rat,p.getD k 0*(p.getD k 0*x)=0→x=0:=fun x hx=>Sc hp (Sc hp hx)
 generalize p.getD k 0=q at *
 generalize a.getD k 0=ak at *
 generalize b.getD k 0=bk at *
 have c1:cr1 a b=0:=g _ (by
  have:q*(q*cr1 a b)=(q*a.getD 1 0)*(q*b.getD 2 0) - (q*a.getD 2 0)*(q*b.getD 1 0):=by unfold cr1;grind
  rw[this,a1,a2,b1,b2];grind)
 have c2:cr2 a b=0:=g _ (by
  have:q*(q*cr2 a b)=(q*a.getD 2 0)*(q*b.getD 0 0) - (q*a.getD 0 0)*(q*b.getD 2 0):=by unfold cr2;grind
  rw[this,a0,a2,b0,b2];grind)
 have c3:cr3 a b=0:=g _ (by
  have:q*(q*cr3 a b)=(q*a.getD 0 0)*(q*b.getD 1 0) - (q*a.getD 1 0)*(q*b.getD 0 0):=by unfold cr3;grind
  rw[this,a0,a1,b0,b1];grind)
 rcases hi with e | e | e
 ·exact e c1
 ·exact e c2
 ·exact e c3
theorem rX.q23 {k:Nat}(hk:k<3){p:List Rat}{M R:List (List Rat)}(h:rX k p M R):Q2 R→Q3 M:=by
 rintro⟨r,hr,t,ht,hi⟩
 obtain⟨s,hs,hd⟩:=h.fwd r hr
 obtain⟨u,hu,hd'⟩:=h.fwd t ht
 refine⟨p,h.mem,s,hs,u,hu,?_⟩
 have zr:=hd.zero h.piv
 have zt:=hd'.zero h.piv
 rw[H7 hd hd',Ob hk zr zt]
 intro e
 have e2:=Sc h.piv e
 have:k=0∨k=1∨k=2:=by omega
 unfold tv cr1 cr2 cr3 at hi
 rcases this with rfl | rfl | rfl
 ·simp only[if_true,cr1] at e2
  rw[zr,zt] at hi
  grind
 ·simp only[cr2] at e2
  rw[zr,zt] at hi
  grind
 ·simp only[cr3] at e2
  rw[zr,zt] at hi
  grind
theorem rX.q32 {k:Nat}(hk:k<3){p:List Rat}{M R:List (List Rat)}(h:rX k p M R):Q3 M→Q2 R:=by
 rintro⟨a,ha,b,hb,c,hc,hi⟩
 refine Classical.byContradiction fun e=>hi ?_
 have key:∀ s,s ∈ M→∀ u,u ∈ M→tri p s u=0:=fun s hs u hu=>by
  rcases h.bwd s hs with rfl | ⟨r,hr,hd⟩
  ·unfold tri cr1 cr2 cr3;grind
  ·rcases h.bwd u hu with rfl | ⟨t,ht,hd'⟩
   ·unfold tri cr1 cr2 cr3;grind
   ·obtain⟨z1,z2,z3⟩:=pP (a:=r) (b:=t) fun e'=>e ⟨r,hr,t,ht,e'⟩
    rw[H7 hd hd']
    unfold tri
    rw[z1,z2,z3]
    grind
 refine Sc h.piv ?_
 rw[Ew p a b c k hk,key b hb c hc,key a ha c hc,key a ha b hb]
 grind
theorem rX.n3 {k:Nat}(hk:k<3){p:List Rat}{M R:List (List Rat)}(h:rX k p M R) : ¬ Q3 R:=by
 rintro⟨a,ha,b,hb,c,hc,hi⟩
 have z:∀ r,r ∈ R→r.getD k 0=0:=fun r hr=>by
  obtain⟨s,-,hd⟩:=h.fwd r hr
  exact hd.zero h.piv
 have za:=z a ha
 have zb:=z b hb
 have zc:=z c hc
 have:k=0∨k=1∨k=2:=by omega
 apply hi
 rcases this with rfl | rfl | rfl <;> simp[tri,cr1,cr2,cr3] <;> grind
theorem rX.rk {k:Nat}(hk:k<3){p:List Rat}{M R:List (List Rat)}(h:rX k p M R):rkM M=rkM R+1:=by
 have q1:Q1 M:=by
  refine⟨p,h.mem,?_⟩
  have:=h.piv
  have hk':k=0∨k=1∨k=2:=by omega
  rcases hk' with rfl | rfl | rfl
  ·exact .inl this
  ·exact .inr (.inl this)
  ·exact .inr (.inr this)
 have n3:=h.n3 hk
 by_cases h3:Q3 M
 ·rw[zV h3,Fc n3 (h.q32 hk h3)]
 ·by_cases h2:Q2 M
  ·rw[Fc h3 h2,Fe (fun e=>h3 (h.q23 hk e)) (h.q21 h2)]
  ·rw[Fe h2 q1,qT (fun e=>h2 (h.q12 hk e))]
theorem ew (M:List (List Rat)):(rkM M=3∧Q3 M)∨(rkM M=2 ∧ ¬ Q3 M∧Q2 M)∨(rkM M=1 ∧ ¬ Q2 M∧Q1 M)∨(rkM M=0 ∧ ¬ Q1 M):=by
 by_cases h3:Q3 M
 ·exact .inl ⟨zV h3,h3⟩
 ·by_cases h2:Q2 M
  ·exact .inr (.inl ⟨Fc h3 h2,h3,h2⟩)
  ·by_cases h1:Q1 M
   ·exact .inr (.inr (.inl ⟨Fe h2 h1,h2,h1⟩))
   ·exact .inr (.inr (.inr ⟨qT h1,h1⟩))
theorem zU {M N:List (List Rat)}(h:∀ a,a ∈ M→a ∈ N):rkM M≤rkM N:=by
 have f1:Q1 M→Q1 N:=fun ⟨a,ha,e⟩=>⟨a,h a ha,e⟩
 have f2:Q2 M→Q2 N:=fun ⟨a,ha,b,hb,e⟩=>⟨a,h a ha,b,h b hb,e⟩
 have f3:Q3 M→Q3 N:=fun ⟨a,ha,b,hb,c,hc,e⟩=>⟨a,h a ha,b,h b hb,c,h c hc,e⟩
 rcases ew M with ⟨e,m⟩| ⟨e,m',m⟩| ⟨e,m',m⟩| ⟨e,m⟩ <;> rw[e]
 ·rw[zV (f3 m)];omega
 ·rcases ew N with ⟨e',n⟩| ⟨e',n',n⟩| ⟨e',n',n⟩| ⟨e',n⟩ <;> rw[e'] <;> first | omega | exact absurd (f2 m) n' | exact absurd (f2 m).q1 n
 ·rcases ew N with ⟨e',n⟩| ⟨e',n',n⟩| ⟨e',n',n⟩| ⟨e',n⟩ <;> rw[e'] <;> first | omega | exact absurd (f1 m) n
 ·omega
theorem MI (a:List Rat) : ¬ tv a a:=by
 unfold tv cr1 cr2 cr3
 intro h
 grind
theorem Wj (M:List (List Rat))(v:List Rat):rkM (M++[v])≤rkM M+1:=by
 have hm:∀ a,a ∈ M++[v]→a ∈ M∨a=v:=fun a ha=>by simpa using ha
 rcases ew M with ⟨e,m⟩| ⟨e,m',m⟩| ⟨e,m',m⟩| ⟨e,m⟩ <;> rw[e]
 ·rcases ew (M++[v]) with ⟨e',n⟩| ⟨e',n',n⟩| ⟨e',n',n⟩| ⟨e',n⟩ <;> omega
 ·rcases ew (M++[v]) with ⟨e',n⟩| ⟨e',n',n⟩| ⟨e',n',n⟩| ⟨e',n⟩ <;> omega
 ·
  have key:∀ a b,a ∈ M→b ∈ M→cr1 a b=0∧cr2 a b=0∧cr3 a b=0:=fun a b ha hb=>pP fun e'=>m' ⟨a,ha,b,hb,e'⟩
  have n3 : ¬ Q3 (M++[v]):=by
   rintro⟨a,ha,b,hb,c,hc,hi⟩
   apply hi
   rcases hm a ha with ha' | rfl
   ·rcases hm b hb with hb' | rfl
    ·obtain⟨e1,e2,e3⟩:=key a b ha' hb'
     unfold cr1 at e1;unfold cr2 at e2;unfold cr3 at e3
     unfold tri cr1 cr2 cr3
     generalize a.getD 0 0=a0,a.getD 1 0=a1,a.getD 2 0=a2,b.getD 0 0=b0,b.getD 1 0=b1,b.getD 2 0=b2,c.getD 0 0=c0,c.getD 1 0=c1,c.getD 2 0=c2 at *
     grind
    ·rcases hm c hc with hc' | rfl
     ·obtain⟨e1,e2,e3⟩:=key a c ha' hc'
      unfold cr1 at e1;unfold cr2 at e2;unfold cr3 at e3
      unfold tri cr1 cr2 cr3
      generalize a.getD 0 0=a0,a.getD 1 0=a1,a.getD 2 0=a2,b.getD 0 0=b0,b.getD 1 0=b1,b.getD 2 0=b2,c.getD 0 0=c0,c.getD 1 0=c1,c.getD 2 0=c2 at *
      grind
     ·unfold tri cr1 cr2 cr3;grind
   ·rcases hm b hb with hb' | rfl
    ·rcases hm c hc with hc' | rfl
     ·obtain⟨e1,e2,e3⟩:=key b c hb' hc'
      unfold tri
      rw[e1,e2,e3];grind
     ·unfold tri cr1 cr2 cr3;grind
    ·unfold tri cr1 cr2 cr3;grind
  rcases ew (M++[v]) with ⟨e',n⟩| ⟨e',n',n⟩| ⟨e',n',n⟩| ⟨e',n⟩
  ·exact absurd n n3
  ·omega
  ·omega
  ·omega
 ·have key:∀ a,a ∈ M→a.getD 0 0=0∧a.getD 1 0=0∧a.getD 2 0=0:=fun a ha=>Gm fun e'=>m ⟨a,ha,e'⟩
  have n2 : ¬ Q2 (M++[v]):=by
   rintro⟨a,ha,b,hb,hi⟩
   rcases hm a ha with ha' | rfl
   ·obtain⟨e1,e2,e3⟩:=key a ha'
    unfold tv cr1 cr2 cr3 at hi
    rw[e1,e2,e3] at hi
    grind
   ·rcases hm b hb with hb' | rfl
    ·obtain⟨e1,e2,e3⟩:=key b hb'
     unfold tv cr1 cr2 cr3 at hi
     rw[e1,e2,e3] at hi
     grind
    ·exact MI _ hi
  rcases ew (M++[v]) with ⟨e',n⟩| ⟨e',n',n⟩| ⟨e',n',n⟩| ⟨e',n⟩
  ·exact absurd n.q2 n2
  ·exact absurd n n2
  ·omega
  ·omega
theorem iE {X:List Rat}{i:Nat}(h:X.length≤i):X.getD i 0=0:=by rw[List.getD_eq_getElem?_getD,List.getElem?_eq_none h];rfl
theorem aat {m:Nat}{M:List (List Rat)}(hM:∀ a,a ∈ M→a.length=m):rkM M≤m:=by
 by_cases h3:3≤m
 ·rcases ew M with ⟨e,-⟩| ⟨e,-⟩| ⟨e,-⟩| ⟨e,-⟩ <;> omega
 ·have z2:∀ a,a ∈ M→a.getD 2 0=0:=fun a ha=>iE (by rw[hM a ha];omega)
  have n3 : ¬ Q3 M:=by
   rintro⟨a,ha,b,hb,c,hc,hi⟩
   apply hi
   unfold tri cr1 cr2 cr3
   rw[z2 a ha,z2 b hb,z2 c hc];grind
  by_cases h2:2≤m
  ·rcases ew M with ⟨e,n⟩| ⟨e,-⟩| ⟨e,-⟩| ⟨e,-⟩
   ·exact absurd n n3
   ·omega
   ·omega
   ·omega
  ·have z1:∀ a,a ∈ M→a.getD 1 0=0:=fun a ha=>iE (by rw[hM a ha];omega)
   have n2 : ¬ Q2 M:=by
    rintro⟨a,ha,b,hb,hi⟩
    unfold tv cr1 cr2 cr3 at hi
    rw[z2 a ha,z2 b hb,z1 a ha,z1 b hb] at hi
    grind
   by_cases h1:1≤m
   ·rcases ew M with ⟨e,n⟩| ⟨e,-,n⟩| ⟨e,-⟩| ⟨e,-⟩
    ·exact absurd n n3
    ·exact absurd n n2
    ·omega
    ·omega
   ·have z0:∀ a,a ∈ M→a.getD 0 0=0:=fun a ha=>iE (by rw[hM a ha];omega)
    have n1 : ¬ Q1 M:=by
     rintro⟨a,ha,hi⟩
     unfold nz at hi
     rw[z0 a ha,z1 a ha,z2 a ha] at hi
     grind
    rw[qT n1];omega
theorem abg {M:List (List Rat)}(h:Q1 M):1≤rkM M:=by
 rcases ew M with ⟨e,-⟩| ⟨e,-⟩| ⟨e,-⟩| ⟨e,n⟩
 ·omega
 ·omega
 ·omega
 ·exact absurd h n
theorem abf {M:List (List Rat)}(h:Q2 M):2≤rkM M:=by
 rcases ew M with ⟨e,-⟩| ⟨e,-⟩| ⟨e,n,-⟩| ⟨e,n⟩
 ·omega
 ·omega
 ·exact absurd h n
 ·exact absurd h.q1 n
theorem abh {m:Nat}{M:List (List Rat)}(h1:1≤m)(h3:m≤3)(hl:M.length=m)(hM:∀ a,a ∈ M→a.length=m):xw M≠0 ↔ rkM M=m:=by
 have hle:=aat hM
 have hm:m=1∨m=2∨m=3:=by omega
 rcases hm with rfl | rfl | rfl
 ·match M,hl with
  | [r],_ =>
   have hr:=hM r (by simp)
   have z1:r.getD 1 0=0:=iE (by omega)
   have z2:r.getD 2 0=0:=iE (by omega)
   rw[afn]
   constructor
   ·intro h
    have:=abg (M:=[r]) ⟨r,by simp,.inl h⟩
    omega
   ·intro h e
    rcases ew [r] with ⟨e',-⟩| ⟨e',-⟩| ⟨e',-,n⟩| ⟨e',-⟩
    ·omega
    ·omega
    ·obtain⟨a,ha,hn⟩:=n
     have:a=r:=by simpa using ha
     subst this
     unfold nz at hn
     rw[z1,z2,e] at hn
     grind
    ·omega
 ·match M,hl with
  | [r,s],_ =>
   have hr:=hM r (by simp)
   have hs:=hM s (by simp)
   have z1:r.getD 2 0=0:=iE (by omega)
   have z2:s.getD 2 0=0:=iE (by omega)
   have e3:xw [r,s]=cr3 r s:=by rw[afm];rfl
   rw[e3]
   constructor
   ·intro h
    have:=abf (M:=[r,s]) ⟨r,by simp,s,by simp,.inr (.inr h)⟩
    omega
   ·intro h e
    rcases ew [r,s] with ⟨e',-⟩| ⟨e',-,n⟩| ⟨e',-⟩| ⟨e',-⟩
    ·omega
    ·obtain⟨a,ha,b,hb,hn⟩:=n
     simp only[List.mem_cons,List.not_mem_nil,or_false] at ha hb
     unfold tv cr1 cr2 cr3 at hn
     unfold cr3 at e
     rcases ha with rfl | rfl <;> rcases hb with rfl | rfl <;> simp only[z1,z2] at hn <;> grind
    ·omega
    ·omega
 ·match M,hl with
  | [r,s,t],_ =>
   have e3:xw [r,s,t]=tri r s t:=by
    rw[afl];unfold tri cr1 cr2 cr3;grind
   rw[e3]
   constructor
   ·intro h
    exact zV ⟨r,by simp,s,by simp,t,by simp,h⟩
   ·intro h e
    rcases ew [r,s,t] with ⟨e',n⟩| ⟨e',-⟩| ⟨e',-⟩| ⟨e',-⟩
    ·obtain⟨a,ha,b,hb,c,hc,hn⟩:=n
     simp only[List.mem_cons,List.not_mem_nil,or_false] at ha hb hc
     unfold tri cr1 cr2 cr3 at hn e
     rcases ha with rfl | rfl | rfl <;> rcases hb with rfl | rfl | rfl <;> rcases hc with rfl | rfl | rfl <;> grind
    ·omega
    ·omega
    ·omega
end Go.Proofs.YtjdmodeenbdfpaaGreat
