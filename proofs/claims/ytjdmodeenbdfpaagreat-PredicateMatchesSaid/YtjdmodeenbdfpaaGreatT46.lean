/- Ranks by elimination and by minors, part 46 of the proof; each lemma states its own conditions. -/
import Derived.Test.YtjdmodeenbdfpaaGreatT45
import Derived.Test.YtjdmodeenbdfpaaGreatT40
set_option linter.unusedSimpArgs false
set_option linter.unusedVariables false
noncomputable section
namespace Go.Proofs.YtjdmodeenbdfpaaGreat
open Go Go.Ab List Tryz
attribute [local simp] FzZ aA aC aF aG aH aa ab ae af ag ah ai aj an ao aq bd blk iB kI nkB nkC nkI nkJ nkT partOf sR seq1
variable(L:Lst)(run:ar)(k:Nat)(fr:List PV)(hp:List Blk)(wr:List Nat)
def rf:Code:=seq1 nkT
def Uj:Code:=seq1 (ah 1 nkT)
def Ug:Code:=ah 3 nkT
theorem eG.ix2 {hp:List Blk}{p:PV}{X:List Rat}(h:eG hp p X)(i:Nat)(hi:i<X.length):∃ a r ids,bg TT 84 p (.sc (.int .i64 (i:Int)))=some a∧aV hp a=some (r,ids)∧bF r 4=some (rcs X[i])∧(ids=[]∨∃ id,id<hp.length∧ids=[id]):=by
 rcases h with rfl | ⟨id,rfl,hid⟩
 ·obtain⟨r,x1,x2⟩:=od true X i hi
  exact⟨_,r,[],x1,rfl,x2,.inl rfl⟩
 ·refine⟨_,_,[id],tc id X.length i true hi,?_,xA X i hi,.inr ⟨id,eO hid,rfl⟩⟩
  simp only[aV,hid]
  rw[if_neg (by simp)]
theorem aa1:((Region.before (fx rf))[9]?.getD 0)=0:=by kernel_rfl
theorem afi:((Region.before (fx rf))[10]?.getD 0)=1023:=by kernel_rfl
theorem Ly {hp:List Blk}{id:Nat}{v:PV}(h:aY hp id=some ⟨.live,[v]⟩):aV hp (.ptr id 0)=some ([v],[id]):=I7 h
theorem ae4(p q:PV)(P V:List Rat)(b kk:Nat)(f:Rat)(h1:kk<P.length)(h2:kk<V.length)(hp':eG hp p P)(hq:eG hp q V)(hb:aY hp b=some ⟨.live,[iv kk]⟩)(g:au L run 54 [rv (some V[kk]),rv (some P[kk])] (rv (some f)))(h0:fr.length=126)(h9:nth fr 9 = .ptr b 0)(h11:nth fr 11=p)(h13:nth fr 13=q) :
  ∃ fr' wr',af (CC L) run k rf ⟨fr,hp,wr⟩=some (.normal,⟨fr',bZ (aM hp rz) hp.length ⟨.live,rcs f⟩,wr'⟩)∧nth fr' 14 = .ptr hp.length 0:=by
 obtain⟨a,r,ids,x1,x2,x3,x4⟩:=hp'.ix2 kk h1
 obtain⟨a',r',ids',y1,y2,y3,y4⟩:=hq.ix2 kk h2
 have hbl:=eO hb
 have hbn : ¬ (hp.length=b):=by omega
 have hb':=Ly hb
 have hx:=al1 hp rz
 have hx1:=dW rz (rcs f) (by rw[cD.len];rfl)
 have hok:=cD.okc f
 have hlx:=cD.len f
 rw[ji,ji,ji] at g
 unfold au at g
 have zR':=zRz
 have ba:=aa1
 have bb:=afi
 simp[rf,f17,fx] at ba bb
 generalize rcs f=cf at *
 generalize rcs P[kk]=cp at *
 generalize rcs V[kk]=cv at *
 have t1:Nat.testBit 1023 1=true:=by decide
 have t3:Nat.testBit 1023 3=true:=by decide
 have t5:Nat.testBit 1023 5=true:=by decide
 have t7:Nat.testBit 1023 7=true:=by decide
 have t9:Nat.testBit 1023 9=true:=by decide
 simp only[iv] at hb'
 rcases x4 with rfl | ⟨i1,hi1,rfl⟩ <;> rcases y4 with rfl | ⟨i2,hi2,rfl⟩
 ·simp[-Nat.testBit_zero,ba,bb,t1,t5,t9,rf,f17,aL,and_assoc,bp,h0,h9,h11,h13,x1,x2,x3,y1,y2,y3,g,hb',hx,hx1,hok,hlx,zR',aR,aI,sI,number,FP.free,cH,FP.apart,hbn]
 ·have hn2 : ¬ (hp.length=i2):=by omega
  simp[-Nat.testBit_zero,ba,bb,t1,t3,t5,t9,rf,f17,aL,and_assoc,bp,h0,h9,h11,h13,x1,x2,x3,y1,y2,y3,g,hb',hx,hx1,hok,hlx,zR',aR,aI,sI,number,FP.free,cH,FP.apart,hbn,hn2]
 ·have hn1 : ¬ (hp.length=i1):=by omega
  simp[-Nat.testBit_zero,ba,bb,t1,t5,t7,t9,rf,f17,aL,and_assoc,bp,h0,h9,h11,h13,x1,x2,x3,y1,y2,y3,g,hb',hx,hx1,hok,hlx,zR',aR,aI,sI,number,FP.free,cH,FP.apart,hbn,hn1]
 ·have hn1 : ¬ (hp.length=i1):=by omega
  have hn2 : ¬ (hp.length=i2):=by omega
  simp[-Nat.testBit_zero,ba,bb,t1,t3,t5,t7,t9,rf,f17,aL,and_assoc,bp,h0,h9,h11,h13,x1,x2,x3,y1,y2,y3,g,hb',hx,hx1,hok,hlx,zR',aR,aI,sI,number,FP.free,cH,FP.apart,hbn,hn1,hn2]
theorem ae3(q:PV)(n:Nat)(hl:dn q=some n)(hn:n≤3)(h0:fr.length=126)(h13:nth fr 13=q) :
  ∃ fr' wr',af (CC L) run k Uj ⟨fr,hp,wr⟩=some (.normal,⟨fr',aM hp (rep n rz),wr'⟩)∧nth fr' 15 = .own hp.length 4 0 n true:=by
 have hm:n≤cS:=Nat.le_trans hn (by decide)
 have hrz:rz.length=4:=rfl
 simp[Uj,f17,bO,bm,and_assoc,h0,h13,hl,uY,bR,zRz,hm,hrz,cg]
theorem KU (mid n t:Nat)(x:Bool)(ht:t<n):bg TT 80 (.own mid 1 0 n x) (.sc (.int .i64 (t:Int)))=some (.ptr mid t):=by
 simp only[bg,kO,bm,pM,ht,and_self,if_true,Nat.zero_add,Nat.mul_one]
theorem aeZ(mid N r i t:Nat)(x:Bool)(w:PV)(ps ps':List PV)(ht:t=r+i)(htN:t<N)(hN:N≤1000)(hm:aY hp mid=some ⟨.live,ps⟩)(ho:cq ps t [w]=some ps')(hc:w.cells?=some [w])(hok:dk w=true)(h0:fr.length=126)(h7:nth fr 7 = .own mid 1 0 N x)(h8:nth fr 8=iv r)(h12:nth fr 12=iv i)(h15:nth fr 15=w) :
  ∃ fr' wr',af (CC L) run k Ug ⟨fr,hp,wr⟩=some (.normal,⟨fr',bZ hp mid ⟨.live,ps'⟩,wr'⟩):=by
 have hw:=dD .i64 r i t ht (hiI (by omega))
 have hix:=KU mid N t x htN
 simp only[iv] at h8 h12
 simp[Ug,f17,bc,aw,bj,bh,h0,h7,h8,h12,h15,hw,hix,hm,ho,hc,hok,pM]
theorem afk:nkT = .seq rf (.seq Uj (.seq (seq1 (ah 2 nkT)) Ug)):=rfl
def Hgr (hp hp':List Blk):Prop:=hp.length≤hp'.length∧∀ i,i<hp.length→aY hp' i=aY hp i
theorem Hgr.trans {a b c:List Blk}(h:Hgr a b)(h':Hgr b c):Hgr a c :=
 ⟨Nat.le_trans h.1 h'.1,fun i hi=>by rw[h'.2 i (Nat.lt_of_lt_of_le hi h.1),h.2 i hi]⟩
theorem Hgr.refl (a:List Blk):Hgr a a:=⟨Nat.le_refl _,fun _ _=>rfl⟩
theorem Hgr.new (a:List Blk)(z:List PV):Hgr a (aM a z):=⟨by simp[aM],fun i hi=>by rw[bK,if_neg (by omega)]⟩
theorem Hgr.afo (a:List Blk)(z:List PV)(b:Blk):Hgr a (bZ (aM a z) a.length b):=⟨by rw[al4];omega,fun i hi=>al3 a z b i hi⟩
theorem Hgr.hex {a b c:List Blk}{w:Nat}(h:Hgr a b)(h':Hex b c w)(hw:a.length≤w):Hgr a c :=
 ⟨Nat.le_trans h.1 h'.1,fun i hi=>by rw[h'.2 i (Nat.lt_of_lt_of_le hi h.1) (by omega),h.2 i hi]⟩
theorem eG.gr {hp hp':List Blk}{p:PV}{X:List Rat}(h:eG hp p X)(ho:Hgr hp hp'):eG hp' p X:=by
 rcases h with h | ⟨id,h1,h2⟩
 ·exact .inl h
 ·exact .inr ⟨id,h1,by rw[ho.2 id (eO h2),h2]⟩
theorem eG.old {hp:List Blk}{p:PV}{X:List Rat}(h:eG hp p X){w n:Nat}(hw:hp.length≤w):p ≠ .own w 4 0 n true:=by
 rcases h with rfl | ⟨id,rfl,h2⟩
 ·intro e;cases e
 ·intro e
  have:=eO h2
  simp only[PV.own.injEq] at e
  omega
theorem ajt(p q:PV)(P V:List Rat)(b kk mid N r i n:Nat)(x:Bool)(ps:List PV)(f:Rat)(hP:P.length=n)(hV:V.length=n)(hn:n≤3)(hk:n<k)(hkk:kk<n)(hp':eG hp p P)(hq:eG hp q V)(hb:aY hp b=some ⟨.live,[iv kk]⟩)(htN:r+i<N)(hN:N≤1000)(hm:aY hp mid=some ⟨.live,ps⟩)(hps:N≤ps.length)
  (gq:au L run 54 [rv (some (V[kk]'(by omega))),rv (some (P[kk]'(by omega)))] (rv (some f)))
  (gm:∀ j (h:j<P.length),au L run 56 [rv (some f),rv (some P[j])] (rv (some (f*P[j])))) (gs:∀ j (h:j<P.length) (h':j<V.length),au L run 55 [rv (some V[j]),rv (some (f*P[j]))] (rv (some (V[j] - f*P[j]))))
  (h0:fr.length=126) (h7:nth fr 7 = .own mid 1 0 N x) (h8:nth fr 8=iv r) (h9:nth fr 9 = .ptr b 0) (h11:nth fr 11=p) (h12:nth fr 12=iv i) (h13:nth fr 13=q) :
  ∃ fr' hp2 wr' w,af (CC L) run k nkT ⟨fr,hp,wr⟩=some (.normal,⟨fr',bZ hp2 mid ⟨.live,ps.set (r+i) w⟩,wr'⟩)∧Hgr hp hp2∧vi hp2 mid w (mg f V P)∧dk w=true:=by
 obtain⟨fr1,wr1,a1,a2⟩:=ae4 L run k fr hp wr p q P V b kk f (by omega) (by omega) hp' hq hb gq h0 h9 h11 h13
 have K1:=bJ _ a1
 have G1:=Hgr.afo hp rz ⟨.live,rcs f⟩
 have F1:=al2 hp rz ⟨.live,rcs f⟩
 have L1:=al4 hp rz ⟨.live,rcs f⟩
 generalize bZ (aM hp rz) hp.length ⟨.live,rcs f⟩=hp1 at *
 obtain⟨fr2,wr2,b1,b2⟩:=ae3 L run k fr1 hp1 wr1 q n (by rw[hq.len,hV]) hn (K1.len h0) (K1.at h13 (by kernel_rfl))
 have K2:=bJ _ b1
 have G2:=G1.trans (Hgr.new hp1 (rep n rz))
 have F2:=al1 hp1 (rep n rz)
 have F2':aY (aM hp1 (rep n rz)) hp.length=some ⟨.live,rcs f⟩:=by rw[(Hgr.new hp1 (rep n rz)).2 _ (by omega),F1]
 generalize aM hp1 (rep n rz)=hp2 at *
 obtain⟨fr3,hp3,wr3,c1,c2,c3⟩:=Ud L run k fr2 hp2 wr2 p q P V n hp.length hp1.length f hP hV hn hk (hp'.gr G2) (hq.gr G2) (hp'.old (by omega)) (hq.old (by omega)) (by omega) F2' F2 gm gs (K2.len (K1.len h0)) (K2.at (K1.at h11 (by kernel_rfl)) (by kernel_rfl)) (K2.at (K1.at h13 (by kernel_rfl)) (by kernel_rfl)) (K2.at a2 (by kernel_rfl)) b2
 have K3:=bJ _ c1
 have G3:=G2.hex c2 (by omega)
 have hml:=eO hm
 have M3:aY hp3 mid=some ⟨.live,ps⟩:=by rw[G3.2 mid hml,hm]
 have hpt:r+i<ps.length:=by omega
 have ho:cq ps (r+i) [.own hp1.length 4 0 n true]=some (ps.set (r+i) (.own hp1.length 4 0 n true)):=by
  have:=kA (e:=id) ps (r+i) (.own hp1.length 4 0 n true) hpt
  simpa using this
 obtain⟨fr4,wr4,d1⟩:=aeZ L run k fr3 hp3 wr3 mid N r i (r+i) x (.own hp1.length 4 0 n true) ps _ rfl htN hN M3 ho rfl rfl (K3.len (K2.len (K1.len h0))) (K3.at (K2.at (K1.at h7 (by kernel_rfl)) (by kernel_rfl)) (by kernel_rfl)) (K3.at (K2.at (K1.at h8 (by kernel_rfl)) (by kernel_rfl)) (by kernel_rfl)) (K3.at (K2.at (K1.at h12 (by kernel_rfl)) (by kernel_rfl)) (by kernel_rfl)) (K3.at b2 (by kernel_rfl))
 refine⟨fr4,hp3,wr4,.own hp1.length 4 0 n true,?_,G3,.inr ⟨hp1.length,by omega,?_,c3⟩,rfl⟩
 ·rw[afk,av a1,av b1,av c1];exact d1
 ·rw[nB (by omega),hP]
def pT (s t:ByteArray):PV:=.imm 2 true [.sc (.string s),.sc (.string t)]
def d3 (A B P:List Rat):PV:=.imm 3 true [qL A,qL B,qL P]
def d4 (A B P:List Rat)(s t:ByteArray):PV:=.imm 4 true [qL A,qL B,qL P,pT s t]
def sgS (S:List Bool):Nat→Bool
 | 0=>false
 | i+1=>if S.getD i false=true then sgS S i else !sgS S i
def exW (f:Nat→Rat)(r:List Rat)(S:List Bool):Nat→Rat
 | 0=>0
 | i+1=>exW f r S i+(if S.getD i false=true then 0 else bif sgS S i then -(r.getD i 0*f i) else r.getD i 0*f i)
def uG (n:Nat):List (List Rat)→List Bool→Rat
 | [],_=>1
 | r::rs,S=>exW (fun k=>uG n rs (S.set k true)) r S n
theorem Lj (f:Nat→Rat)(r:List Rat)(S:List Bool):∀ i,(exS f r S i).2=sgS S i∧vv (exS f r S i).1=exW f r S i
 | 0=>⟨rfl,rfl⟩
 | i+1=>by
  obtain⟨h1,h2⟩:=Lj f r S i
  unfold exS sgS exW
  by_cases hs:S.getD i false=true
  ·rw[if_pos hs,if_pos hs,if_pos hs]
   exact⟨h1,by rw[h2,Rat.add_zero]⟩
  ·rw[if_neg hs,if_neg hs,if_neg hs]
   by_cases h0:r.getD i 0=0
   ·rw[if_pos h0,h0,Rat.zero_mul]
    refine⟨by rw[h1],?_⟩
    show vv (exS f r S i).1=_
    rw[h2]
    cases sgS S i <;> simp[Rat.add_zero]
   ·rw[if_neg h0]
    refine⟨by rw[h1],?_⟩
    show vv (exS f r S i).1+_=_
    rw[h1,h2]
theorem Li (n:Nat):∀ (rows:List (List Rat)) (S:List Bool),vv (exU n rows S)=uG n rows S
 | [],S=>rfl
 | r::rs,S=>by
  unfold exU uG
  rw[(Lj _ r S n).2]
  congr 1
  funext k
  exact Li n rs _
def rL (M:List (List Rat)):Rat:=uG M.length M (List.replicate M.length false)
theorem Fg (M:List (List Rat)):vv (mW M)=rL M:=Li _ _ _
theorem ads (r:List Rat):rL [r]=r.getD 0 0:=by
 simp[rL,uG,exW,sgS]
 try grind
theorem adr (r s:List Rat):rL [r,s]=r.getD 0 0*s.getD 1 0 - r.getD 1 0*s.getD 0 0:=by
 simp[rL,uG,exW,sgS]
 try grind
theorem adq (r s t:List Rat):rL [r,s,t]=r.getD 0 0*(s.getD 1 0*t.getD 2 0 - s.getD 2 0*t.getD 1 0) - r.getD 1 0*(s.getD 0 0*t.getD 2 0 - s.getD 2 0*t.getD 0 0)+r.getD 2 0*(s.getD 0 0*t.getD 1 0 - s.getD 1 0*t.getD 0 0):=by
 simp[rL,uG,exW,sgS]
 try grind
theorem adp (r s t u:List Rat):rL [r,s,t,u]=r.getD 0 0*(s.getD 1 0*(t.getD 2 0*u.getD 3 0 - t.getD 3 0*u.getD 2 0) - s.getD 2 0*(t.getD 1 0*u.getD 3 0 - t.getD 3 0*u.getD 1 0)+s.getD 3 0*(t.getD 1 0*u.getD 2 0 - t.getD 2 0*u.getD 1 0))
  - r.getD 1 0*(s.getD 0 0*(t.getD 2 0*u.getD 3 0 - t.getD 3 0*u.getD 2 0) - s.getD 2 0*(t.getD 0 0*u.getD 3 0 - t.getD 3 0*u.getD 0 0)+s.getD 3 0*(t.getD 0 0*u.getD 2 0 - t.getD 2 0*u.getD 0 0))
  + r.getD 2 0*(s.getD 0 0*(t.getD 1 0*u.getD 3 0 - t.getD 3 0*u.getD 1 0) - s.getD 1 0*(t.getD 0 0*u.getD 3 0 - t.getD 3 0*u.getD 0 0)+s.getD 3 0*(t.getD 0 0*u.getD 1 0 - t.getD 1 0*u.getD 0 0))
  - r.getD 3 0*(s.getD 0 0*(t.getD 1 0*u.getD 2 0 - t.getD 2 0*u.getD 1 0) - s.getD 1 0*(t.getD 0 0*u.getD 2 0 - t.getD 2 0*u.getD 0 0)+s.getD 2 0*(t.getD 0 0*u.getD 1 0 - t.getD 1 0*u.getD 0 0)):=by
 simp[rL,uG,exW,sgS]
 try grind
theorem Nb.sub {k:Nat}{x y:Int}(h:Nb k x)(h':Nb k y):Nb (k+1) (x - y):=by rw[Int.sub_eq_add_neg];exact h.add h'.neg
theorem MV {x:Rat}(h:x<0):gp x = -1:=by
 have : ¬ 0≤x.num:=fun h'=>by
  have:=Rat.num_nonneg.1 h'
  grind
 exact Int.sign_eq_neg_one_of_neg (by omega)
theorem RU {x:Rat}(h:0<x):gp x=1:=by
 have h1:=Rat.num_nonneg.2 (show 0≤x by grind)
 have h2:x.num≠0:=fun e=>by
  have:=Rat.num_eq_zero.1 e
  grind
 exact Int.sign_eq_one_of_pos (by omega)
theorem GY (x:Rat):(x<0∧gp x = -1)∨(x=0∧gp x=0)∨(0<x∧gp x=1):=by
 by_cases h:x<0
 ·exact .inl ⟨h,MV h⟩
 ·by_cases h0:x=0
  ·exact .inr (.inl ⟨h0,by rw[h0];rfl⟩)
  ·have:0<x:=by grind
   exact .inr (.inr ⟨this,RU this⟩)
theorem Si (x y:Rat):Hd x y=gp (x - y):=by
 unfold Hd
 rcases GY (x - y) with ⟨h1,h2⟩| ⟨h1,h2⟩| ⟨h1,h2⟩ <;> rw[h2]
 ·rw[if_pos (by grind)]
 ·rw[if_neg (by grind),if_pos (by grind)]
 ·rw[if_neg (by grind),if_neg (by grind)]
theorem Rb.inv {k:Nat}{y:Rat}(h:Rb k y)(h0:y≠0):Rb k y⁻¹:=by
 have hn:y.num≠0:=fun e=>h0 (Rat.num_eq_zero.1 e)
 have e:y⁻¹=Rat.inv y:=rfl
 rw[e]
 unfold Rat.inv
 split
 ·refine⟨?_,?_⟩
  ·show Nb k (-(y.den:Int))
   exact h.2.neg
  ·show Nb k ((y.num.natAbs:Nat):Int)
   have:=h.1
   unfold Nb at *
   simpa using this
 ·split
  ·refine⟨h.2,?_⟩
   show Nb k ((y.num.natAbs:Nat):Int)
   have:=h.1
   unfold Nb at *
   simpa using this
  ·exact h
theorem Rb.div {j k:Nat}{x y:Rat}(h:Rb j x)(h':Rb k y)(h0:y≠0):Rb (j+k) (x / y):=by
 rw[Rat.div_def];exact h.mul (h'.inv h0)
def Um:Code:=seq1 nkJ
def Uk:Code:=seq1 (ah 1 nkJ)
def Uf:Code:=cw (ah 2 iB)
theorem afl:nkJ = .seq Um (.seq Uk (.cond (.tmp 85) nkT .skip)):=rfl
theorem afn:ah 2 iB = .seq (.block 3 nkJ) Uf:=rfl
theorem afe(n j:Nat)(hj:j<n)(h0:fr.length=126)(h74:nth fr 74=iv n)(h75:nth fr 75=iv j):aX (CC L) run k 2 iB ⟨fr,hp,wr⟩=some ⟨dR fr 76 (.sc (.bool true)),hp,wr⟩:=by
 simp only[iv] at h74 h75
 simp[aX,f17,bc,aw,bj,h0,h74,h75,hj]
theorem aaZ(n:Nat)(h0:fr.length=126)(h74:nth fr 74=iv n)(h75:nth fr 75=iv n):af (CC L) run k iB ⟨fr,hp,wr⟩=some (.exit 2,⟨dR fr 76 (.sc (.bool false)),hp,wr⟩):=by
 simp only[iv] at h74 h75
 simp[f17,bc,aw,bj,h0,h74,h75]
theorem aaW(j:Nat)(hj:j<1000)(h0:fr.length=126)(h75:nth fr 75=iv j):∃ fr',af (CC L) run k Uf ⟨fr,hp,wr⟩=some (.normal,⟨fr',hp,wr⟩)∧nth fr' 75=iv (j+1):=by
 have hw:=bH j (by omega)
 simp only[iv] at h75
 simp[iv,Uf,f17,cw,bc,aw,bj,az,h0,h75,hw]
theorem ae6(mid r n i:Nat)(x:Bool)(ps:List PV)(v:PV)(hi:i<n)(hm:aY hp mid=some ⟨.live,ps⟩)(hv:ps[r+i]?=some v)(hok:dk v=true)(h0:fr.length=126)(h73:nth fr 73 = .own mid 1 r n x)(h75:nth fr 75=iv i) :
  ∃ fr',af (CC L) run k Um ⟨fr,hp,wr⟩=some (.normal,⟨fr',hp,wr⟩)∧nth fr' 12=iv i∧nth fr' 13=v:=by
 have x1:bg TT 80 (.own mid 1 r n x) (.sc (.int .i64 (i:Int)))=some (.ptr mid (r+i)):=by
  simp only[bg,kO,bm,pM,hi,if_true,Nat.mul_one,and_self]
 have hd:(br ps (r+i)).head?=some v:=by rw[cA,head?_drop,hv]
 simp only[iv] at h75
 simp[iv,Um,f17,h0,h73,h75,x1,hm,hd,aV,Xy,pM]
theorem ae5(q:PV)(V:List Rat)(b kk:Nat)(s:Int)(h2:kk<V.length)(hq:eG hp q V)(hb:aY hp b=some ⟨.live,[iv kk]⟩)(g:au L run 49 [.agg (rcs V[kk])] (Ab.bz s))(h0:fr.length=126)(h9:nth fr 9 = .ptr b 0)(h13:nth fr 13=q) :
  ∃ fr',af (CC L) run k Uk ⟨fr,hp,wr⟩=some (.normal,⟨fr',hp,wr⟩)∧nth fr' 85 = .sc (.bool (s != 0)):=by
 obtain⟨a,r,ids,x1,x2,x3⟩:=hq.ix kk h2
 have hb':=Ly hb
 unfold au at g
 simp only[Ab.bz] at g
 have hok:=cD.okc V[kk]
 generalize rcs V[kk]=c at *
 simp only[iv] at hb'
 simp[Uk,f17,aL,bc,aw,bj,az,h0,h9,h13,hb',x1,x2,x3,g,sI,aI,aR]
def Rws (hp:List Blk)(mid N:Nat)(g:Nat→List Rat):Prop:=∃ ps,aY hp mid=some ⟨.live,ps⟩∧N≤ps.length∧∀ t,t<N→∃ v,ps[t]?=some v∧vi hp mid v (g t)
theorem Hgr.to {a b:List Blk}(h:Hgr a b)(w:Nat):Hex a b w:=⟨h.1,fun i hi _=>h.2 i hi⟩
theorem vi.gr {hp hp':List Blk}{mid:Nat}{p:PV}{X:List Rat}(h:vi hp mid p X)(ho:Hgr hp hp'):vi hp' mid p X:=h.mono fun i hi _=>ho.2 i hi
theorem Rws.gr {hp hp':List Blk}{mid N:Nat}{g:Nat→List Rat}(h:Rws hp mid N g)(ho:Hgr hp hp'):Rws hp' mid N g:=by
 obtain⟨ps,h1,h2,h3⟩:=h
 refine⟨ps,by rw[ho.2 _ (eO h1),h1],h2,fun t ht => ?_⟩
 obtain⟨v,h4,h5⟩:=h3 t ht
 exact⟨v,h4,h5.gr ho⟩
theorem Rws.put {hp:List Blk}{mid N t:Nat}{g:Nat→List Rat}{ps:List PV}{w:PV}{W:List Rat}(h1:aY hp mid=some ⟨.live,ps⟩)(h2:N≤ps.length)(h3:∀ s,s<N→s≠t→∃ v,ps[s]?=some v∧vi hp mid v (g s))(hw:vi hp mid w W)(ht:t<N):Rws (bZ hp mid ⟨.live,ps.set t w⟩) mid N (fun s=>if s=t then W else g s):=by
 have hk:∀ i,i<hp.length→i≠mid→aY (bZ hp mid ⟨.live,ps.set t w⟩) i=aY hp i:=fun i _ hn=>jS h1 hn
 refine⟨ps.set t w,kp h1,by rw[length_set];exact h2,fun s hs => ?_⟩
 by_cases e:s=t
 ·subst e
  refine⟨w,by rw[getElem?_set_self (by omega)],?_⟩
  dsimp only
  rw[if_pos rfl]
  exact hw.mono hk
 ·obtain⟨v,h4,h5⟩:=h3 s hs e
  refine⟨v,by rw[getElem?_set_ne (Ne.symm e),h4],?_⟩
  dsimp only
  rw[if_neg e]
  exact h5.mono hk
def yN (kk:Nat)(P V:List Rat):List Rat:=if V.getD kk 0=0 then V else mg (V.getD kk 0 / P.getD kk 0) V P
def ku (kk r i:Nat)(P:List Rat)(g:Nat→List Rat)(t:Nat):List Rat:=if r≤t∧t<r+i then yN kk P (g t) else g t
theorem gj {X:List Rat}{i:Nat}(h:i<X.length):X.getD i 0=X[i]:=by rw[getD_eq_getElem?_getD,getElem?_eq_getElem h];rfl
theorem Yy {P V:List Rat}{b c:Nat}{f:Rat}(hf:Rb c f)(hP:RbL b P)(hV:RbL b V):RbL (c+2*b+1) (mg f V P):=by
 intro x hx
 unfold mg at hx
 rw[mem_iff_getElem] at hx
 obtain⟨i,hi,rfl⟩:=hx
 rw[length_zipWith] at hi
 rw[getElem_zipWith]
 exact ((hV _ (getElem_mem (by omega))).sub (hf.mul (hP _ (getElem_mem (by omega))))).mono (by omega)
theorem Zs {P V:List Rat}{kk b:Nat}(hk:kk<P.length)(hkV:kk<V.length)(h0:P.getD kk 0≠0)(hP:RbL b P)(hV:RbL b V):RbL (4*b+1) (yN kk P V):=by
 unfold yN
 split
 ·exact fun x hx=>(hV x hx).mono (by omega)
 ·have hf:Rb (b+b) (V.getD kk 0 / P.getD kk 0):=by
   refine Rb.div ?_ ?_ h0
   ·rw[gj hkV];exact hV _ (getElem_mem _)
   ·rw[gj hk];exact hP _ (getElem_mem _)
  exact fun x hx=>(Yy hf hP hV x hx).mono (by omega)
theorem R8 {P V:List Rat}{kk n:Nat}(hP:P.length=n)(hV:V.length=n):(yN kk P V).length=n:=by
 unfold yN
 split
 ·exact hV
 ·rw[nB (by omega),hP]
structure NkC (L:Lst):Prop where
 sg:bu L 49=fun a=>iA (aJ a)
 qu:bu L 54=fun a=>J7 (aJ a)
 mu:bu L 56=fun a=>kS (aJ a)
 su:bu L 55=fun a=>nJ (aJ a)
theorem aha {L:Lst}(hL:bu L 55=fun a=>nJ (aJ a))(run:ar){u v:Option Rat}{j k:Nat}(hu:Rb j (vv u))(hv:Rb k (vv v))(h:j+k≤1000000):au L run 55 [rv u,rv v] (rv (some (vv u - vv v))):=fun dr hh =>
 jO J2 hL run dr hh _ _ [rv (some (vv u - vv v))] (wi hh u v) (tp u v) (Dm hu hv h)
theorem aaQ (L:Lst)(run:ar)(k:Nat)(hL:NkC L)(fr:List PV)(hp:List Blk)(wr:List Nat)(p:PV)(P:List Rat)(g:Nat→List Rat)(b kk mid N r n bb:Nat)(x x':Bool)(hP:P.length=n)(hn:n≤3)(hk:n<k)(hk2:N - r<k)(hkk:kk<n)(hp':eG hp p P)(hP0:P[kk]'(by omega)≠0)(hPb:RbL bb P)(hbb:bb≤100000)(hg:∀ t,t<N→(g t).length=n∧RbL bb (g t))(hb:aY hp b=some ⟨.live,[iv kk]⟩)(hbm:b≠mid)(hr:r≤N)(hN:N≤999)(hR:Rws hp mid N g)(hpm:p ≠ .own mid 4 0 n true)
  (h0:fr.length=126) (h7:nth fr 7 = .own mid 1 0 N x) (h8:nth fr 8=iv r) (h9:nth fr 9 = .ptr b 0) (h11:nth fr 11=p) (h73:nth fr 73 = .own mid 1 r (N - r) x') (h74:nth fr 74=iv (N - r)) (h75:nth fr 75=iv 0) :
  ∃ fr' hp' wr',af (CC L) run k (.block 2 (.loop iB)) ⟨fr,hp,wr⟩=some (.normal,⟨fr',hp',wr'⟩)∧Hex hp hp' mid∧Rws hp' mid N (ku kk r (N - r) P g):=by
 obtain⟨st,b1,b2⟩:=x9 (C:=CC L) (run:=run) (k:=k) (e:=2) (b:=iB) (n:=N - r) (st:=⟨fr,hp,wr⟩)
  (Inv:=fun i st=>fD (dQ iB) fr st.fr∧nth st.fr 75=iv i∧Hex hp st.hp mid∧Rws st.hp mid N (ku kk r i P g))
  (Q:=fun st=>Hex hp st.hp mid∧Rws st.hp mid N (ku kk r (N - r) P g)) hk2
  (fun i st hi ⟨k1,k2,k3,k4⟩=>by
   obtain⟨fr1,hp1,wr1⟩:=st
   dsimp only at k1 k2 k3 k4
   have c0:=k1.len h0
   have e7:nth fr1 7 = .own mid 1 0 N x:=k1.at h7 (by kernel_rfl)
   have e8:nth fr1 8=iv r:=k1.at h8 (by kernel_rfl)
   have e9:nth fr1 9 = .ptr b 0:=k1.at h9 (by kernel_rfl)
   have e11:nth fr1 11=p:=k1.at h11 (by kernel_rfl)
   have e73:nth fr1 73 = .own mid 1 r (N - r) x':=k1.at h73 (by kernel_rfl)
   have e74:nth fr1 74=iv (N - r):=k1.at h74 (by kernel_rfl)
   have gg:=afe L run k fr1 hp1 wr1 (N - r) i hi c0 e74 k2
   have s0:(dR fr1 76 (.sc (.bool true))).length=126:=by rw[ab];exact c0
   have s1:∀ t,t≠76→nth (dR fr1 76 (.sc (.bool true))) t=nth fr1 t:=fun t ht=>ae ht
   obtain⟨ps,q1,q2,q3⟩:=k4
   obtain⟨v,v1,v2⟩:=q3 (r+i) (by omega)
   have ev:ku kk r i P g (r+i)=g (r+i):=by unfold ku;rw[if_neg (by omega)]
   rw[ev] at v2
   obtain⟨gl,gb⟩:=hg (r+i) (by omega)
   generalize hV:g (r+i)=V at *
   have hva:=v2.at
   obtain⟨fr2,a1,a2,a3⟩:=ae6 L run k (dR fr1 76 (.sc (.bool true))) hp1 wr1 mid r (N - r) i x' ps v hi q1 v1 hva.ok s0 ((s1 73 (by omega)).trans e73) ((s1 75 (by omega)).trans k2)
   have K2:=bJ _ a1
   have f0:=K2.len s0
   have f9:nth fr2 9 = .ptr b 0:=K2.at ((s1 9 (by omega)).trans e9) (by kernel_rfl)
   have hb1:aY hp1 b=some ⟨.live,[iv kk]⟩:=by rw[k3.2 b (eO hb) hbm,hb]
   have hVk:kk<V.length:=by omega
   obtain⟨fr3,d1,d2⟩:=ae5 L run k fr2 hp1 wr1 v V b kk (gp V[kk]) hVk hva hb1 (Cg hL.sg run (p:=.agg (rcs V[kk])) (u:=some V[kk]) (.inl rfl) (gb _ (getElem_mem _)) (by omega)) f0 f9 a3
   have K3:=bJ _ d1
   rw[Bq] at d2
   have fin:∀ (fr5:List PV) (hp5:List Blk) (wr5:List Nat),af (CC L) run k (.cond (.tmp 85) nkT .skip) ⟨fr3,hp1,wr1⟩=some (.normal,⟨fr5,hp5,wr5⟩)→Hex hp1 hp5 mid→Rws hp5 mid N (ku kk r (i+1) P g)→∃ st',af (CC L) run k iB ⟨fr1,hp1,wr1⟩=some (.normal,st')∧fD (dQ iB) fr st'.fr∧nth st'.fr 75=iv (i+1)∧Hex hp st'.hp mid∧Rws st'.hp mid N (ku kk r (i+1) P g):=by
    intro fr5 hp5 wr5 u1 u2 u3
    have hx:af (CC L) run k (.block 3 nkJ) ⟨dR fr1 76 (.sc (.bool true)),hp1,wr1⟩=some (.normal,⟨fr5,hp5,wr5⟩):=by
     refine dH ?_
     rw[afl,av a1,av d1];exact u1
    have K5:=bJ _ hx
    obtain⟨fr6,g1,g2⟩:=aaW L run k fr5 hp5 wr5 i (by omega) (K5.len s0) (K5.at ((s1 75 (by omega)).trans k2) (by kernel_rfl))
    have hall:af (CC L) run k iB ⟨fr1,hp1,wr1⟩=some (.normal,⟨fr6,hp5,wr5⟩):=by
     rw[aO 2 gg,afn,av hx];exact g1
    exact⟨_,hall,k1.trans (bJ _ hall),g2,k3.trans u2,u3⟩
   by_cases hz:V[kk]=0
   ·refine fin fr3 hp1 wr1 ?_ (Hex.refl _ _) ⟨ps,q1,q2,fun t ht => ?_⟩
    ·rw[hz] at d2
     simp[d2]
    ·obtain⟨v',w1,w2⟩:=q3 t ht
     refine⟨v',w1,?_⟩
     have:ku kk r (i+1) P g t=ku kk r i P g t:=by
      by_cases e:t=r+i
      ·subst e
       unfold ku yN
       rw[if_pos (show r≤r+i∧r+i<r+(i+1) by omega),if_neg (show ¬ (r≤r+i∧r+i<r+i) by omega),hV,if_pos (by rw[gj hVk];exact hz)]
      ·unfold ku
       by_cases e2:r≤t∧t<r+i
       ·rw[if_pos e2,if_pos (by omega)]
       ·rw[if_neg e2,if_neg (by omega)]
     rw[this];exact w2
   ·have hpP:eG hp1 p P:=hp'.mono k3 (by rw[hP];exact hpm)
    have bV:∀ j (h:j<V.length),Rb bb V[j]:=fun j h=>gb _ (getElem_mem h)
    have bP:∀ j (h:j<P.length),Rb bb P[j]:=fun j h=>hPb _ (getElem_mem h)
    have bf:Rb (bb+bb) (V[kk] / P[kk]'(by omega)):=(bV _ _).div (bP _ _) hP0
    obtain⟨fr4,hp4,wr4,w,t1,t2,t3,t4⟩:=ajt L run k fr3 hp1 wr1 p v P V b kk mid N r i n x ps (V[kk] / P[kk]'(by omega)) hP gl hn hk hkk hpP hva hb1 (by omega) (by omega) q1 q2 (ahh hL.qu run (u:=some V[kk]) (v:=some (P[kk]'(by omega))) (bV _ _) (bP _ _) (by omega) (by omega) hP0)
     (fun j h=>Jh hL.mu run (u:=some _) (v:=some P[j]) (.inl rfl) (.inl rfl) bf (bP j h) (by omega))
     (fun j h h'=>aha hL.su run (u:=some V[j]) (v:=some _) (bV j h') (bf.mul (bP j h)) (by omega))
     (K3.len f0) (K3.at (K2.at ((s1 7 (by omega)).trans e7) (by kernel_rfl)) (by kernel_rfl)) (K3.at (K2.at ((s1 8 (by omega)).trans e8) (by kernel_rfl)) (by kernel_rfl)) (K3.at f9 (by kernel_rfl)) (K3.at (K2.at ((s1 11 (by omega)).trans e11) (by kernel_rfl)) (by kernel_rfl)) (K3.at a2 (by kernel_rfl)) (K3.at a3 (by kernel_rfl))
    have hm4:aY hp4 mid=some ⟨.live,ps⟩:=by rw[t2.2 mid (eO q1),q1]
    refine fin fr4 (bZ hp4 mid ⟨.live,ps.set (r+i) w⟩) wr4 ?_ ((t2.to mid).trans (Hex.set hm4)) ?_
    ·rw[show decide (V[kk]=0)=false from decide_eq_false hz] at d2
     simp only[Bool.not_false] at d2
     simp only[af,aj,d2]
     exact t1
    ·have:=Rws.put (g:=ku kk r i P g) (W:=mg (V[kk] / P[kk]'(by omega)) V P) hm4 q2 (fun s hs _=>by
      obtain⟨v',w1,w2⟩:=q3 s hs
      exact⟨v',w1,w2.gr t2⟩) t3 (show r+i<N by omega)
     have e:(fun s=>if s=r+i then mg (V[kk] / P[kk]'(by omega)) V P else ku kk r i P g s)=ku kk r (i+1) P g:=by
      funext t
      by_cases e:t=r+i
      ·subst e
       unfold ku yN
       rw[if_pos rfl,if_pos (by omega),hV,if_neg (by rw[gj hVk];exact hz),gj hVk,gj (by omega)]
      ·rw[if_neg e]
       unfold ku
       by_cases e2:r≤t∧t<r+i
       ·rw[if_pos e2,if_pos (by omega)]
       ·rw[if_neg e2,if_neg (by omega)]
     rw[← e];exact this)
  (fun st ⟨k1,k2,k3,k4⟩=>by
   obtain⟨fr1,hp1,wr1⟩:=st
   dsimp only at k1 k2 k3 k4
   have g:=aaZ L run k fr1 hp1 wr1 (N - r) (k1.len h0) (k1.at h74 (by kernel_rfl)) k2
   exact⟨_,g,k3,k4⟩)
  ⟨fD.refl _ _,h75,Hex.refl _ _,by
   have:ku kk r 0 P g=g:=by
    funext t
    unfold ku
    rw[if_neg (by omega)]
   dsimp only
   rw[this];exact hR⟩
 obtain⟨fr',hp2,wr'⟩:=st
 exact⟨fr',hp2,wr',b1,b2⟩
def cr1 (a b:List Rat):Rat:=a.getD 1 0*b.getD 2 0 - a.getD 2 0*b.getD 1 0
def cr2 (a b:List Rat):Rat:=a.getD 2 0*b.getD 0 0 - a.getD 0 0*b.getD 2 0
def cr3 (a b:List Rat):Rat:=a.getD 0 0*b.getD 1 0 - a.getD 1 0*b.getD 0 0
def tri (a b c:List Rat):Rat:=a.getD 0 0*cr1 b c+a.getD 1 0*cr2 b c+a.getD 2 0*cr3 b c
def nz (a:List Rat):Prop:=a.getD 0 0≠0∨a.getD 1 0≠0∨a.getD 2 0≠0
def rB (a b:List Rat):Prop:=cr1 a b≠0∨cr2 a b≠0∨cr3 a b≠0
def Q1 (M:List (List Rat)):Prop:=∃ a,a ∈ M∧nz a
def Q2 (M:List (List Rat)):Prop:=∃ a,a ∈ M∧∃ b,b ∈ M∧rB a b
def Q3 (M:List (List Rat)):Prop:=∃ a,a ∈ M∧∃ b,b ∈ M∧∃ c,c ∈ M∧tri a b c≠0
open Classical in
def rkM (M:List (List Rat)):Nat:=if Q3 M then 3 else if Q2 M then 2 else if Q1 M then 1 else 0
theorem BO {a:List Rat}(h : ¬ nz a):a.getD 0 0=0∧a.getD 1 0=0∧a.getD 2 0=0:=by
 unfold nz at h
 exact⟨Classical.byContradiction fun e=>h (.inl e),Classical.byContradiction fun e=>h (.inr (.inl e)),Classical.byContradiction fun e=>h (.inr (.inr e))⟩
theorem jI {a b:List Rat}(h : ¬ rB a b):cr1 a b=0∧cr2 a b=0∧cr3 a b=0:=by
 unfold rB at h
 exact⟨Classical.byContradiction fun e=>h (.inl e),Classical.byContradiction fun e=>h (.inr (.inl e)),Classical.byContradiction fun e=>h (.inr (.inr e))⟩
theorem Q3.q2 {M:List (List Rat)}(h:Q3 M):Q2 M:=by
 obtain⟨a,ha,b,hb,c,hc,h⟩:=h
 refine Classical.byContradiction fun hn=>h ?_
 have : ¬ rB b c:=fun e=>hn ⟨b,hb,c,hc,e⟩
 obtain⟨e1,e2,e3⟩:=jI this
 unfold tri
 rw[e1,e2,e3]
 grind
theorem Q2.q1 {M:List (List Rat)}(h:Q2 M):Q1 M:=by
 obtain⟨a,ha,b,hb,h⟩:=h
 refine Classical.byContradiction fun hn => ?_
 obtain⟨e1,e2,e3⟩:=BO (a:=a) fun e=>hn ⟨a,ha,e⟩
 unfold rB cr1 cr2 cr3 at h
 rw[e1,e2,e3] at h
 grind
theorem wK {M:List (List Rat)}(h:Q3 M):rkM M=3:=by unfold rkM;rw[if_pos h]
theorem Bs {M:List (List Rat)}(h : ¬ Q3 M)(h2:Q2 M):rkM M=2:=by unfold rkM;rw[if_neg h,if_pos h2]
theorem Bt {M:List (List Rat)}(h : ¬ Q2 M)(h2:Q1 M):rkM M=1:=by unfold rkM;rw[if_neg (fun e=>h e.q2),if_neg h,if_pos h2]
theorem sC {M:List (List Rat)}(h : ¬ Q1 M):rkM M=0:=by unfold rkM;rw[if_neg (fun e=>h e.q2.q1),if_neg (fun e=>h e.q1),if_neg h]
def Red (k:Nat)(p s r:List Rat):Prop:=∀ i,r.getD i 0=s.getD i 0 - s.getD k 0 / p.getD k 0*p.getD i 0
theorem JR {p s u r t:List Rat}{k:Nat}(h:Red k p s r)(h':Red k p u t):tri p s u=tri p r t:=by
 have a0:=h 0;have a1:=h 1;have a2:=h 2
 have b0:=h' 0;have b1:=h' 1;have b2:=h' 2
 generalize s.getD k 0 / p.getD k 0=x at *
 generalize u.getD k 0 / p.getD k 0=y at *
 unfold tri cr1 cr2 cr3
 rw[a0,a1,a2,b0,b1,b2]
 grind
theorem Red.zero {p s r:List Rat}{k:Nat}(h:Red k p s r)(hp:p.getD k 0≠0):r.getD k 0=0:=by
 rw[h k,Rat.div_mul_cancel hp]
 grind
theorem QG {k:Nat}(hk:k<3){p r t:List Rat}(hr:r.getD k 0=0)(ht:t.getD k 0=0):tri p r t=p.getD k 0*(if k=0 then cr1 r t else if k=1 then cr2 r t else cr3 r t):=by
 have:k=0∨k=1∨k=2:=by omega
 rcases this with rfl | rfl | rfl <;> simp[tri,cr1,cr2,cr3] <;> grind
theorem mh (p a b c:List Rat)(i:Nat)(hi:i<3):p.getD i 0*tri a b c=a.getD i 0*tri p b c - b.getD i 0*tri p a c+c.getD i 0*tri p a b:=by
 have:i=0∨i=1∨i=2:=by omega
 rcases this with rfl | rfl | rfl <;> simp only[tri,cr1,cr2,cr3] <;> grind
structure tD (k:Nat) (p:List Rat) (M R:List (List Rat)):Prop where
 mem:p ∈ M
 piv:p.getD k 0≠0
 fwd:∀ r,r ∈ R→∃ s,s ∈ M∧Red k p s r
 bwd:∀ s,s ∈ M→s=p∨∃ r,r ∈ R∧Red k p s r
theorem Red.mul {p s r:List Rat}{k:Nat}(h:Red k p s r)(hp:p.getD k 0≠0)(i:Nat):p.getD k 0*r.getD i 0=p.getD k 0*s.getD i 0 - s.getD k 0*p.getD i 0:=by
 have e:s.getD k 0 / p.getD k 0*p.getD k 0=s.getD k 0:=Rat.div_mul_cancel hp
 rw[h i]
 generalize s.getD k 0 / p.getD k 0=x at *
 rw[← e]
 grind
theorem yT {x y:Rat}(hx:x≠0)(h:x*y=0):y=0:=by
 rcases Rat.mul_eq_zero.1 h with e | e
 ·exact absurd e hx
 ·exact e
theorem tD.q12 {k:Nat}(hk:k<3){p:List Rat}{M R:List (List Rat)}(h:tD k p M R):Q1 R→Q2 M:=by
 rintro⟨r,hr,hn⟩
 obtain⟨s,hs,hd⟩:=h.fwd r hr
 refine Classical.byContradiction fun e => ?_
 obtain⟨e1,e2,e3⟩:=jI (a:=p) (b:=s) fun e'=>e ⟨p,h.mem,s,hs,e'⟩
 have m0:=hd.mul h.piv 0
 have m1:=hd.mul h.piv 1
 have m2:=hd.mul h.piv 2
 have hz:∀ i,p.getD k 0*r.getD i 0=0→r.getD i 0=0:=fun i=>yT h.piv
 unfold cr1 at e1
 unfold cr2 at e2
 unfold cr3 at e3
 have:k=0∨k=1∨k=2:=by omega
 have z0:r.getD 0 0=0:=hz 0 (by rw[m0];rcases this with rfl | rfl | rfl <;> grind)
 have z1:r.getD 1 0=0:=hz 1 (by rw[m1];rcases this with rfl | rfl | rfl <;> grind)
 have z2:r.getD 2 0=0:=hz 2 (by rw[m2];rcases this with rfl | rfl | rfl <;> grind)
 rcases hn with e | e | e
 ·exact e z0
 ·exact e z1
 ·exact e z2
theorem tD.q21 {k:Nat}{p:List Rat}{M R:List (List Rat)}(h:tD k p M R):Q2 M→Q1 R:=by
 rintro⟨a,ha,b,hb,hi⟩
 refine Classical.byContradiction fun e => ?_
 have key:∀ s,s ∈ M→∀ i,i<3→p.getD k 0*s.getD i 0=s.getD k 0*p.getD i 0:=fun s hs i hi=>by
  rcases h.bwd s hs with rfl | ⟨r,hr,hd⟩
  ·rfl
  ·obtain⟨z0,z1,z2⟩:=BO (a:=r) fun e'=>e ⟨r,hr,e'⟩
   have m:=hd.mul h.piv i
   have:r.getD i 0=0:=by
    have:i=0∨i=1∨i=2:=by omega
    rcases this with rfl | rfl | rfl <;> assumption
   rw[this,Rat.mul_zero] at m
   grind
 have a0:=key a ha 0 (by omega)
 have a1:=key a ha 1 (by omega)
 have a2:=key a ha 2 (by omega)
 have b0:=key b hb 0 (by omega)
 have b1:=key b hb 1 (by omega)
 have b2:=key b hb 2 (by omega)
 have hp:=h.piv
 have g:∀ x:Rat,p.getD k 0*(p.getD k 0*x)=0→x=0:=fun x hx=>yT hp (yT hp hx)
 generalize p.getD k 0=q at *
 generalize a.getD k 0=ak at *
 generalize b.getD k 0=bk at *
 have c1:cr1 a b=0:=g _ (by
  have:q*(q*cr1 a b)=(q*a.getD 1 0)*(q*b.getD 2 0) - (q*a.getD 2 0)*(q*b.getD 1 0):=by unfold cr1;grind
  rw[this,a1,a2,b1,b2];grind)
 have c2:cr2 a b=0:=g _ (by
  have:q*(q*cr2 a b)=(q*a.getD 2 0)*(q*b.getD 0 0) - (q*a.getD 0 0)*(q*b.getD 2 0):=by unfold cr2;grind
  rw[this,a0,a2,b0,b2];grind)
 have c3:cr3 a b=0:=g _ (by
  have:q*(q*cr3 a b)=(q*a.getD 0 0)*(q*b.getD 1 0) - (q*a.getD 1 0)*(q*b.getD 0 0):=by unfold cr3;grind
  rw[this,a0,a1,b0,b1];grind)
 rcases hi with e | e | e
 ·exact e c1
 ·exact e c2
 ·exact e c3
theorem tD.q23 {k:Nat}(hk:k<3){p:List Rat}{M R:List (List Rat)}(h:tD k p M R):Q2 R→Q3 M:=by
 rintro⟨r,hr,t,ht,hi⟩
 obtain⟨s,hs,hd⟩:=h.fwd r hr
 obtain⟨u,hu,hd'⟩:=h.fwd t ht
 refine⟨p,h.mem,s,hs,u,hu,?_⟩
 have zr:=hd.zero h.piv
 have zt:=hd'.zero h.piv
 rw[JR hd hd',QG hk zr zt]
 intro e
 have e2:=yT h.piv e
 have:k=0∨k=1∨k=2:=by omega
 unfold rB cr1 cr2 cr3 at hi
 rcases this with rfl | rfl | rfl
 ·simp only[if_true,cr1] at e2
  rw[zr,zt] at hi
  grind
 ·simp only[cr2] at e2
  rw[zr,zt] at hi
  grind
 ·simp only[cr3] at e2
  rw[zr,zt] at hi
  grind
theorem tD.q32 {k:Nat}(hk:k<3){p:List Rat}{M R:List (List Rat)}(h:tD k p M R):Q3 M→Q2 R:=by
 rintro⟨a,ha,b,hb,c,hc,hi⟩
 refine Classical.byContradiction fun e=>hi ?_
 have key:∀ s,s ∈ M→∀ u,u ∈ M→tri p s u=0:=fun s hs u hu=>by
  rcases h.bwd s hs with rfl | ⟨r,hr,hd⟩
  ·unfold tri cr1 cr2 cr3;grind
  ·rcases h.bwd u hu with rfl | ⟨t,ht,hd'⟩
   ·unfold tri cr1 cr2 cr3;grind
   ·obtain⟨z1,z2,z3⟩:=jI (a:=r) (b:=t) fun e'=>e ⟨r,hr,t,ht,e'⟩
    rw[JR hd hd']
    unfold tri
    rw[z1,z2,z3]
    grind
 refine yT h.piv ?_
 rw[mh p a b c k hk,key b hb c hc,key a ha c hc,key a ha b hb]
 grind
theorem tD.n3 {k:Nat}(hk:k<3){p:List Rat}{M R:List (List Rat)}(h:tD k p M R) : ¬ Q3 R:=by
 rintro⟨a,ha,b,hb,c,hc,hi⟩
 have z:∀ r,r ∈ R→r.getD k 0=0:=fun r hr=>by
  obtain⟨s,-,hd⟩:=h.fwd r hr
  exact hd.zero h.piv
 have za:=z a ha
 have zb:=z b hb
 have zc:=z c hc
 have:k=0∨k=1∨k=2:=by omega
 apply hi
 rcases this with rfl | rfl | rfl <;> simp[tri,cr1,cr2,cr3] <;> grind
theorem tD.rk {k:Nat}(hk:k<3){p:List Rat}{M R:List (List Rat)}(h:tD k p M R):rkM M=rkM R+1:=by
 have q1:Q1 M:=by
  refine⟨p,h.mem,?_⟩
  have:=h.piv
  have hk':k=0∨k=1∨k=2:=by omega
  rcases hk' with rfl | rfl | rfl
  ·exact .inl this
  ·exact .inr (.inl this)
  ·exact .inr (.inr this)
 have n3:=h.n3 hk
 by_cases h3:Q3 M
 ·rw[wK h3,Bs n3 (h.q32 hk h3)]
 ·by_cases h2:Q2 M
  ·rw[Bs h3 h2,Bt (fun e=>h3 (h.q23 hk e)) (h.q21 h2)]
  ·rw[Bt h2 q1,sC (fun e=>h2 (h.q12 hk e))]
end Go.Proofs.YtjdmodeenbdfpaaGreat
end
