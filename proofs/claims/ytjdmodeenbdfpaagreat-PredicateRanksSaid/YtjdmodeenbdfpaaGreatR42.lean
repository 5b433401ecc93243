/- Ranks by elimination and by minors, part 42 of the proof; each lemma states its own conditions. -/
import Derived.Test.YtjdmodeenbdfpaaGreatR41
set_option linter.unusedSimpArgs false
set_option linter.unusedVariables false
namespace Go.Proofs.YtjdmodeenbdfpaaGreat
open Go Go.Ab
noncomputable def pQ:Code:=seq1 nkT
noncomputable def RR:Code:=seq1 (ah 1 nkT)
noncomputable def RO:Code:=ah 3 nkT
theorem eg.ix2 {hp:List Blk}{p:PV}{X:List Rat}(h:eg hp p X)(i:Nat)(hi:i<X.length):∃ a r ids,bc TT 84 p (.sc (.int .i64 (i:Int)))=some a∧aU hp a=some (r,ids)∧bG r 4=some (rcs X[i])∧(ids=[]∨∃ id,id<hp.length∧ids=[id]):=by
 rcases h with rfl | ⟨id,rfl,hid⟩
 ·obtain⟨r,x1,x2⟩:=m9 true X i hi
  exact⟨_,r,[],x1,rfl,x2,.inl rfl⟩
 ·refine⟨_,_,[id],rG id X.length i true hi,?_,vJ X i hi,.inr ⟨id,fI hid,rfl⟩⟩
  simp only[aU,hid]
  rw[if_neg (by simp)]
theorem Yt:((Region.before (gJ pQ))[9]?.getD 0)=0:=by kernel_rfl
theorem aci:((Region.before (gJ pQ))[10]?.getD 0)=1023:=by kernel_rfl
theorem Jo {hp:List Blk}{id:Nat}{v:PV}(h:aV hp id=some ⟨.live,[v]⟩):aU hp (.ptr id 0)=some ([v],[id]):=Hs h
theorem ab3 (L:Lst)(run:ar)(k:Nat)(fr:List PV)(hp:List Blk)(wr:List Nat)(p q:PV)(P V:List Rat)(b kk:Nat)(f:Rat)(h1:kk<P.length)(h2:kk<V.length)(hp':eg hp p P)(hq:eg hp q V)(hb:aV hp b=some ⟨.live,[iv kk]⟩)(g:aA L run 54 [rv (some V[kk]),rv (some P[kk])] (rv (some f)))(h0:fr.length=126)(h9:nth fr 9 = .ptr b 0)(h11:nth fr 11=p)(h13:nth fr 13=q) :
  ∃ fr' wr',af (CC L) run k pQ ⟨fr,hp,wr⟩=some (.normal,⟨fr',bO (aO hp rz) hp.length ⟨.live,rcs f⟩,wr'⟩)∧nth fr' 14 = .ptr hp.length 0:=by
 obtain⟨a,r,ids,x1,x2,x3,x4⟩:=hp'.ix2 kk h1
 obtain⟨a',r',ids',y1,y2,y3,y4⟩:=hq.ix2 kk h2
 have hbl:=fI hb
 have hbn : ¬ (hp.length=b):=by omega
 have hb':=Jo hb
 have hx:=al1 hp rz
 have hx1:=ee rz (rcs f) (by rw[cG.len];rfl)
 have hok:=cG.okc f
 have hlx:=cG.len f
 rw[js,js,js] at g
 unfold aA at g
 have zR':=zRz
 have ba:=Yt
 have bb:=aci
 simp[pQ,nkT,nkJ,gZ,nkI,nkB,nkC,Tryz.f17,ah,seq1,jS,blk,az,gJ] at ba bb
 generalize rcs f=cf at *
 generalize rcs P[kk]=cp at *
 generalize rcs V[kk]=cv at *
 have t1:Nat.testBit 1023 1=true:=by decide
 have t3:Nat.testBit 1023 3=true:=by decide
 have t5:Nat.testBit 1023 5=true:=by decide
 have t7:Nat.testBit 1023 7=true:=by decide
 have t9:Nat.testBit 1023 9=true:=by decide
 simp only[iv] at hb'
 rcases x4 with rfl | ⟨i1,hi1,rfl⟩ <;> rcases y4 with rfl | ⟨i2,hi2,rfl⟩
 ·simp[-Nat.testBit_zero,ba,bb,t1,t5,t9,pQ,nkT,nkJ,gZ,nkI,nkB,nkC,Tryz.f17,ah,seq1,jS,blk,az,af,aJ,ao,aq,aH,ag,ai,aQ,aj,an,aF,aC,FP.none,partOf,aa,ae,ab,bh,and_assoc,bn,h0,h9,h11,h13,x1,x2,x3,y1,y2,y3,g,hb',hx,hx1,hok,hlx,zR',aR,sR,aI,sI,number,FP.free,cF,FP.apart,hbn]
 ·have hn2 : ¬ (hp.length=i2):=by omega
  simp[-Nat.testBit_zero,ba,bb,t1,t3,t5,t9,pQ,nkT,nkJ,gZ,nkI,nkB,nkC,Tryz.f17,ah,seq1,jS,blk,az,af,aJ,ao,aq,aH,ag,ai,aQ,aj,an,aF,aC,FP.none,partOf,aa,ae,ab,bh,and_assoc,bn,h0,h9,h11,h13,x1,x2,x3,y1,y2,y3,g,hb',hx,hx1,hok,hlx,zR',aR,sR,aI,sI,number,FP.free,cF,FP.apart,hbn,hn2]
 ·have hn1 : ¬ (hp.length=i1):=by omega
  simp[-Nat.testBit_zero,ba,bb,t1,t5,t7,t9,pQ,nkT,nkJ,gZ,nkI,nkB,nkC,Tryz.f17,ah,seq1,jS,blk,az,af,aJ,ao,aq,aH,ag,ai,aQ,aj,an,aF,aC,FP.none,partOf,aa,ae,ab,bh,and_assoc,bn,h0,h9,h11,h13,x1,x2,x3,y1,y2,y3,g,hb',hx,hx1,hok,hlx,zR',aR,sR,aI,sI,number,FP.free,cF,FP.apart,hbn,hn1]
 ·have hn1 : ¬ (hp.length=i1):=by omega
  have hn2 : ¬ (hp.length=i2):=by omega
  simp[-Nat.testBit_zero,ba,bb,t1,t3,t5,t7,t9,pQ,nkT,nkJ,gZ,nkI,nkB,nkC,Tryz.f17,ah,seq1,jS,blk,az,af,aJ,ao,aq,aH,ag,ai,aQ,aj,an,aF,aC,FP.none,partOf,aa,ae,ab,bh,and_assoc,bn,h0,h9,h11,h13,x1,x2,x3,y1,y2,y3,g,hb',hx,hx1,hok,hlx,zR',aR,sR,aI,sI,number,FP.free,cF,FP.apart,hbn,hn1,hn2]
theorem ab2 (L:Lst)(run:ar)(k:Nat)(fr:List PV)(hp:List Blk)(wr:List Nat)(q:PV)(n:Nat)(hl:ef q=some n)(hn:n≤3)(h0:fr.length=126)(h13:nth fr 13=q) :
  ∃ fr' wr',af (CC L) run k RR ⟨fr,hp,wr⟩=some (.normal,⟨fr',aO hp (rep n rz),wr'⟩)∧nth fr' 15 = .own hp.length 4 0 n true:=by
 have hm:n≤cY:=Nat.le_trans hn (by decide)
 have hrz:rz.length=4:=rfl
 simp[RR,nkT,nkJ,gZ,nkI,nkB,nkC,Tryz.f17,ah,seq1,jS,blk,az,af,aJ,ao,aq,aH,ag,ai,aj,an,aF,aC,FP.none,bM,bm,aa,ab,bh,and_assoc,h0,h13,hl,Bd,sR,bR,zRz,hm,hrz,cn]
theorem IW (mid n t:Nat)(x:Bool)(ht:t<n):bc TT 80 (.own mid 1 0 n x) (.sc (.int .i64 (t:Int)))=some (.ptr mid t):=by
 simp only[bc,kQ,bm,pA,ht,and_self,if_true,Nat.zero_add,Nat.mul_one]
theorem abY (L:Lst)(run:ar)(k:Nat)(fr:List PV)(hp:List Blk)(wr:List Nat)(mid N r i t:Nat)(x:Bool)(w:PV)(ps ps':List PV)(ht:t=r+i)(htN:t<N)(hN:N≤1000)(hm:aV hp mid=some ⟨.live,ps⟩)(ho:cj ps t [w]=some ps')(hc:w.cells?=some [w])(hok:dw w=true)(h0:fr.length=126)(h7:nth fr 7 = .own mid 1 0 N x)(h8:nth fr 8=iv r)(h12:nth fr 12=iv i)(h15:nth fr 15=w) :
  ∃ fr' wr',af (CC L) run k RO ⟨fr,hp,wr⟩=some (.normal,⟨fr',bO hp mid ⟨.live,ps'⟩,wr'⟩):=by
 have hw:=dp .i64 r i t ht (hiI (by omega))
 have hix:=IW mid N t x htN
 simp only[iv] at h8 h12
 simp[RO,nkT,nkJ,gZ,nkI,nkB,nkC,Tryz.f17,ah,seq1,jS,blk,az,af,aJ,ao,aq,aH,ag,ai,aj,an,aF,aC,FP.none,bd,au,bj,aa,ae,ab,bh,bg,h0,h7,h8,h12,h15,hw,hix,hm,ho,hc,hok,pA]
theorem ack:nkT = .seq pQ (.seq RR (.seq (seq1 (ah 2 nkT)) RO)):=rfl
def Hgr (hp hp':List Blk):Prop:=hp.length≤hp'.length∧∀ i,i<hp.length→aV hp' i=aV hp i
theorem Hgr.trans {a b c:List Blk}(h:Hgr a b)(h':Hgr b c):Hgr a c :=
 ⟨Nat.le_trans h.1 h'.1,fun i hi=>by rw[h'.2 i (Nat.lt_of_lt_of_le hi h.1),h.2 i hi]⟩
theorem Hgr.refl (a:List Blk):Hgr a a:=⟨Nat.le_refl _,fun _ _=>rfl⟩
theorem Hgr.new (a:List Blk)(z:List PV):Hgr a (aO a z):=⟨by simp[aO],fun i hi=>by rw[bN,if_neg (by omega)]⟩
theorem Hgr.aeU (a:List Blk)(z:List PV)(b:Blk):Hgr a (bO (aO a z) a.length b):=⟨by rw[al4];omega,fun i hi=>al3 a z b i hi⟩
theorem Hgr.hex {a b c:List Blk}{w:Nat}(h:Hgr a b)(h':Hex b c w)(hw:a.length≤w):Hgr a c :=
 ⟨Nat.le_trans h.1 h'.1,fun i hi=>by rw[h'.2 i (Nat.lt_of_lt_of_le hi h.1) (by omega),h.2 i hi]⟩
theorem eg.gr {hp hp':List Blk}{p:PV}{X:List Rat}(h:eg hp p X)(ho:Hgr hp hp'):eg hp' p X:=by
 rcases h with h | ⟨id,h1,h2⟩
 ·exact .inl h
 ·exact .inr ⟨id,h1,by rw[ho.2 id (fI h2),h2]⟩
theorem eg.old {hp:List Blk}{p:PV}{X:List Rat}(h:eg hp p X){w n:Nat}(hw:hp.length≤w):p ≠ .own w 4 0 n true:=by
 rcases h with rfl | ⟨id,rfl,h2⟩
 ·intro e;cases e
 ·intro e
  have:=fI h2
  simp only[PV.own.injEq] at e
  omega
theorem afO (L:Lst)(run:ar)(k:Nat)(fr:List PV)(hp:List Blk)(wr:List Nat)(p q:PV)(P V:List Rat)(b kk mid N r i n:Nat)(x:Bool)(ps:List PV)(f:Rat)(hP:P.length=n)(hV:V.length=n)(hn:n≤3)(hk:n<k)(hkk:kk<n)(hp':eg hp p P)(hq:eg hp q V)(hb:aV hp b=some ⟨.live,[iv kk]⟩)(htN:r+i<N)(hN:N≤1000)(hm:aV hp mid=some ⟨.live,ps⟩)(hps:N≤ps.length)
  (gq:aA L run 54 [rv (some (V[kk]'(by omega))),rv (some (P[kk]'(by omega)))] (rv (some f)))
  (gm:∀ j (h:j<P.length),aA L run 56 [rv (some f),rv (some P[j])] (rv (some (f*P[j])))) (gs:∀ j (h:j<P.length) (h':j<V.length),aA L run 55 [rv (some V[j]),rv (some (f*P[j]))] (rv (some (V[j] - f*P[j]))))
  (h0:fr.length=126) (h7:nth fr 7 = .own mid 1 0 N x) (h8:nth fr 8=iv r) (h9:nth fr 9 = .ptr b 0) (h11:nth fr 11=p) (h12:nth fr 12=iv i) (h13:nth fr 13=q) :
  ∃ fr' hp2 wr' w,af (CC L) run k nkT ⟨fr,hp,wr⟩=some (.normal,⟨fr',bO hp2 mid ⟨.live,ps.set (r+i) w⟩,wr'⟩)∧Hgr hp hp2∧tB hp2 mid w (lA f V P)∧dw w=true:=by
 obtain⟨fr1,wr1,a1,a2⟩:=ab3 L run k fr hp wr p q P V b kk f (by omega) (by omega) hp' hq hb gq h0 h9 h11 h13
 have K1:=bT _ a1
 have G1:=Hgr.aeU hp rz ⟨.live,rcs f⟩
 have F1:=al2 hp rz ⟨.live,rcs f⟩
 have L1:=al4 hp rz ⟨.live,rcs f⟩
 generalize bO (aO hp rz) hp.length ⟨.live,rcs f⟩=hp1 at *
 obtain⟨fr2,wr2,b1,b2⟩:=ab2 L run k fr1 hp1 wr1 q n (by rw[hq.len,hV]) hn (K1.len h0) (K1.at h13 (by kernel_rfl))
 have K2:=bT _ b1
 have G2:=G1.trans (Hgr.new hp1 (rep n rz))
 have F2:=al1 hp1 (rep n rz)
 have F2':aV (aO hp1 (rep n rz)) hp.length=some ⟨.live,rcs f⟩:=by rw[(Hgr.new hp1 (rep n rz)).2 _ (by omega),F1]
 generalize aO hp1 (rep n rz)=hp2 at *
 obtain⟨fr3,hp3,wr3,c1,c2,c3⟩:=RL L run k fr2 hp2 wr2 p q P V n hp.length hp1.length f hP hV hn hk (hp'.gr G2) (hq.gr G2) (hp'.old (by omega)) (hq.old (by omega)) (by omega) F2' F2 gm gs (K2.len (K1.len h0)) (K2.at (K1.at h11 (by kernel_rfl)) (by kernel_rfl)) (K2.at (K1.at h13 (by kernel_rfl)) (by kernel_rfl)) (K2.at a2 (by kernel_rfl)) b2
 have K3:=bT _ c1
 have G3:=G2.hex c2 (by omega)
 have hml:=fI hm
 have M3:aV hp3 mid=some ⟨.live,ps⟩:=by rw[G3.2 mid hml,hm]
 have hpt:r+i<ps.length:=by omega
 have ho:cj ps (r+i) [.own hp1.length 4 0 n true]=some (ps.set (r+i) (.own hp1.length 4 0 n true)):=by
  have:=jN (e:=id) ps (r+i) (.own hp1.length 4 0 n true) hpt
  simpa using this
 obtain⟨fr4,wr4,d1⟩:=abY L run k fr3 hp3 wr3 mid N r i (r+i) x (.own hp1.length 4 0 n true) ps _ rfl htN hN M3 ho rfl rfl (K3.len (K2.len (K1.len h0))) (K3.at (K2.at (K1.at h7 (by kernel_rfl)) (by kernel_rfl)) (by kernel_rfl)) (K3.at (K2.at (K1.at h8 (by kernel_rfl)) (by kernel_rfl)) (by kernel_rfl)) (K3.at (K2.at (K1.at h12 (by kernel_rfl)) (by kernel_rfl)) (by kernel_rfl)) (K3.at b2 (by kernel_rfl))
 refine⟨fr4,hp3,wr4,.own hp1.length 4 0 n true,?_,G3,.inr ⟨hp1.length,by omega,?_,c3⟩,rfl⟩
 ·rw[ack,av a1,av b1,av c1];exact d1
 ·rw[mF (by omega),hP]
def cz:Option Rat→List PV
 | none=>rz
 | some x=>rcs x
theorem zh (u:Option Rat):Rc (cz u) u:=by
 cases u
 ·exact .inr ⟨rfl,rfl⟩
 ·exact .inl rfl
theorem aft {cs:List PV}{x:Rat}(h:Rc cs (some x)):cs=cz (some x):=by
 rcases h with h | ⟨h,-⟩
 ·exact h
 ·cases h
theorem kF {C:Cfg}{run:ar}{k i:Nat}{a b:Code}{st st':St}(h:af C run k a st=some (.exit i,st')):af C run k (.seq a b) st=some (.exit i,st'):=by
 simp only[af,h]
theorem ju {C:Cfg}{run:ar}{k i:Nat}{b:Code}{st st':St}(h:af C run k b st=some (.exit i,st')):af C run k (.block i b) st=some (.normal,st'):=by
 simp only[af,h,if_true]
theorem y5 {C:Cfg}{run:ar}{k:Nat}{c:Operand}{a b:Code}{st:St}{v:Bool}(h:an st.fr c = .sc (.bool v)):af C run k (.cond c a b) st=bif v then af C run k a st else af C run k b st:=by
 cases v <;> simp only[af,h,cond_true,cond_false]
theorem zS (x:Rat):(kV x != 0) = !decide (x=0):=by
 unfold kV
 by_cases h:x=0
 ·subst h;rfl
 ·rw[decide_eq_false h,Bool.not_false,bne_iff_ne]
  intro e
  exact h (Rat.num_eq_zero.1 (Int.sign_eq_zero_iff_zero.1 e))
def Vm (L:Lst)(run:ar)(hp0:List Blk)(S:List Bool)(row n:Nat)(U:Nat→Option Rat):Prop :=
 ∀ i,i<n→S.getD i false=false→∀ hp1:List Blk,hp0.length≤hp1.length→(∀ t,t<hp0.length→t≠2→aV hp1 t=aV hp0 t)→aV hp1 2=some ⟨.live,(S.set i true).map bl⟩ →
  ∃ m,cg (CC L) run true hp1 109 [.sc (.int .i64 ((row:Int)+1)),.ptr 0 0,.ptr 3 0,.ptr 4 0]=some (.agg (cz (U i)),hp1,⟨[],List.replicate m 2,true,true⟩)
theorem Jb (L:Lst)(run:ar)(k:Nat)(gm:bw L 56=fun a=>j8 (aK a))(ga:bw L 87=fun a=>iG (aK a))(gn:bw L 106=fun a=>jI (aK a))(gs:bw L 49=fun a=>iq (aK a))(hp0:List Blk)(row n:Nat)(M:List (List Rat))(S:List Bool)(U:Nat→Option Rat){k1 k2:Nat}
  (hS:S.length=n) (h9':row<1000) (hn9:n<1000) (h5:5≤hp0.length) (hH:H0 hp0 M n S) (hr:row<M.length) (hR:M[row].length=n) (hk:0<k1) (hb2:RbL k1 M[row]) (hb3:∀ i,Rb k2 (vv (U i))) (h6:n*(k1+k2+1)+1+k1+k2≤1000000) (hcall:Vm L run hp0 S row n U) :
  ∀ (d i:Nat) (fr:List PV) (hp:List Blk) (wr:List Nat),i+d=n→XF fr hp0.length row n i (exS (fun i=>vv (U i)) M[row] S i).2→XH hp0 hp (cz (exS (fun i=>vv (U i)) M[row] S i).1)→WB hp0.length wr →
  ∃ fr' hp' wr',cl (af (CC L) run k exL) (d+1) ⟨fr,hp,wr⟩=some (.exit 0,⟨fr',hp',wr'⟩)∧XF fr' hp0.length row n n (exS (fun i=>vv (U i)) M[row] S n).2∧XH hp0 hp' (cz (exS (fun i=>vv (U i)) M[row] S n).1)∧WB hp0.length wr'
 | 0,i,fr,hp,wr,hin,h,hX,hw=>by
  have e:i=n:=by omega
  subst e
  obtain⟨fr',q1,q2⟩:=adh L run k fr hp wr hp0.length row i _ h
  exact⟨fr',hp,wr,bD q1,q2,hX,hw⟩
 | d+1,i,fr,hp,wr,hin,h,hX,hw=>by
  have hi:i<n:=by omega
  have hiR:i<M[row].length:=by omega
  obtain⟨fr1,fr2,a1,a2,a3,a4,a5⟩:=af0 L run k fr hp wr hp0.length row n i _ hi h
  have hHh:H0 hp M n S:=by
   obtain⟨p0,p2,p3,p4⟩:=hH
   obtain⟨-,q2,-⟩:=hX
   exact⟨by rw[q2 0 (by omega),p0],by rw[q2 2 (by omega),p2],by rw[q2 3 (by omega),p3],by rw[q2 4 (by omega),p4]⟩
  have go:∀ (fr3:List PV) (hp3:List Blk) (wr3:List Nat),af (CC L) run k (.block 1 (.seq Zy (.seq Zx (.seq nm Jf)))) ⟨fr1,hp,wr⟩=some (.normal,⟨fr3,hp3,wr3⟩)→XF fr3 hp0.length row n i (exS (fun i=>vv (U i)) M[row] S (i+1)).2→XH hp0 hp3 (cz (exS (fun i=>vv (U i)) M[row] S (i+1)).1)→WB hp0.length wr3 →
    ∃ fr' hp' wr',cl (af (CC L) run k exL) (d+1+1) ⟨fr,hp,wr⟩=some (.exit 0,⟨fr',hp',wr'⟩)∧XF fr' hp0.length row n n (exS (fun i=>vv (U i)) M[row] S n).2∧XH hp0 hp' (cz (exS (fun i=>vv (U i)) M[row] S n).1)∧WB hp0.length wr':=by
   intro fr3 hp3 wr3 b1 b2 b3 b4
   obtain⟨fr4,c1,c2⟩:=afb L run k fr3 hp3 wr3 hp0.length row n i _ (by omega) b2
   obtain⟨fr',hp',wr',s1,s2⟩:=Jb L run k gm ga gn gs hp0 row n M S U hS h9' hn9 h5 hH hr hR hk hb2 hb3 h6 hcall d (i+1) fr4 hp3 wr3 (by omega) c2 b3 b4
   refine⟨fr',hp',wr',?_,s2⟩
   rw[ch (st':=⟨fr4,hp3,wr3⟩) (by rw[adl,av a1,av a2,av b1];exact c1)]
   exact s1
  have eS:exS (fun i=>vv (U i)) M[row] S (i+1)=if S.getD i false=true then exS (fun i=>vv (U i)) M[row] S i else if M[row].getD i 0=0 then ((exS (fun i=>vv (U i)) M[row] S i).1, !(exS (fun i=>vv (U i)) M[row] S i).2) else
   (some (vv (exS (fun i=>vv (U i)) M[row] S i).1+(bif (exS (fun i=>vv (U i)) M[row] S i).2 then -(M[row].getD i 0*vv (U i)) else M[row].getD i 0*vv (U i))), !(exS (fun i=>vv (U i)) M[row] S i).2):=rfl
  have eR:M[row].getD i 0=M[row][i]:=by rw[List.getD_eq_getElem?_getD,List.getElem?_eq_getElem hiR];rfl
  cases hv:S.getD i false with
  | true =>
   obtain⟨fr3,b1,b2,-⟩:=Ja L run k fr2 hp wr hp0.length row n i _ M S hi hS true hv a4 a5 hHh
   rw[if_pos hv] at eS
   refine go fr3 hp wr ?_ (by rw[eS];exact b2) (by rw[eS];exact hX) hw
   exact ju (by rw[av a3];exact kF b1)
  | false =>
   obtain⟨fr3,b1,b2,b2'⟩:=Ja L run k fr2 hp wr hp0.length row n i _ M S hi hS false hv a4 a5 hHh
   rw[if_neg (by rw[hv];simp),eR] at eS
   have hbe:Rb k1 M[row][i]:=hb2 _ (List.getElem_mem hiR)
   obtain⟨fr4,fr5,c1,c2,c3,c4,c5,c6⟩:=af1 L run k fr3 hp wr hp0.length row n i _ M S hr hiR _ (AU gs run (p:=.agg (rcs M[row][i])) (u:=some M[row][i]) (.inl rfl) hbe (by omega)) rfl b2 b2' hHh
   obtain⟨q1,q2,q3,q4⟩:=hX
   have nh:∀ t,t<hp.length→aV (bO (aO hp rz) hp.length ⟨.live,rcs M[row][i]⟩) t=aV hp t:=fun t ht=>al3 hp rz _ t ht
   have X5:XH hp0 (bO (aO hp rz) hp.length ⟨.live,rcs M[row][i]⟩) (cz (exS (fun i=>vv (U i)) M[row] S i).1) :=
    ⟨by rw[al4];omega,fun t ht=>by rw[nh t (by omega),q2 t ht],by rw[nh _ (by omega),q3],by rw[nh _ (by omega),q4]⟩
   have w5:WB hp0.length (aC [hp.length] (aC [hp.length] wr)):=(hw.add (WB.one (x:=hp.length) (.inr (by omega)))).add (WB.one (x:=hp.length) (.inr (by omega)))
   rw[zS] at c6
   have ec:an fr5 (.tmp 33) = .sc (.bool (!decide (M[row][i]=0))):=c6
   by_cases h0:M[row][i]=0
   ·rw[decide_eq_true h0,Bool.not_true] at ec
    have hN:af (CC L) run k nm ⟨fr3,hp,wr⟩=some (.normal,⟨fr5,bO (aO hp rz) hp.length ⟨.live,rcs M[row][i]⟩,aC [hp.length] (aC [hp.length] wr)⟩):=by
     rw[Je,av c1,av c2,y5 ec];rfl
    obtain⟨fr6,d1,d2⟩:=aaB L run k fr5 (bO (aO hp rz) hp.length ⟨.live,rcs M[row][i]⟩) (aC [hp.length] (aC [hp.length] wr)) hp0.length row n i _ c3
    rw[if_pos h0] at eS
    refine go fr6 _ _ ?_ (by rw[eS];exact d2) (by rw[eS];exact X5) w5
    exact dW (by rw[av a3,av b1,av hN];exact d1)
   ·rw[decide_eq_false h0,Bool.not_false] at ec
    have hbS:Rb (i*(k1+k2+1)+1) (vv (exS (fun i=>vv (U i)) M[row] S i).1):=GV (fun i=>hb3 i) hb2 hk i
    have hin2:i*(k1+k2+1)≤n*(k1+k2+1):=Nat.mul_le_mul_right _ (by omega)
    obtain⟨fr6,hp6,wr6,sc6,d1,d2,d3,d4,d5⟩:=Zs L run k gm ga gn hp0 _ fr5 _ row n i hp.length _ M S _ _ M[row][i] (vv (U i)) (cz (U i)) (U i) hi hS h9' hv h5 hH X5 q1 (by rw[al4];omega) (al2 hp rz _) ⟨c3,c4,c5⟩ (zh _) (zh _) rfl hbS hbe (hb3 i) (by omega) w5 (hcall i hi hv)
    have d6:=aft d5
    rw[if_neg h0] at eS
    obtain⟨fr7,e1,e2⟩:=aaB L run k fr6 hp6 wr6 hp0.length row n i _ d2
    have hN:af (CC L) run k nm ⟨fr3,hp,wr⟩=some (.normal,⟨fr6,hp6,wr6⟩):=by
     rw[Je,av c1,av c2,y5 ec];exact d1
    refine go fr7 hp6 wr6 ?_ (by rw[eS];exact e2) (by rw[eS,← d6];exact d3) d4
    exact dW (by rw[av a3,av b1,av hN];exact e1)
theorem Tm (n:Nat)(p q r s:PV):(entry (n+4) [p,q,r,s]).length=n+4∧nth (entry (n+4) [p,q,r,s]) 0=p∧nth (entry (n+4) [p,q,r,s]) 1=q∧nth (entry (n+4) [p,q,r,s]) 2=r∧nth (entry (n+4) [p,q,r,s]) 3=s:=⟨gx _ _ (by simp),rfl,rfl,rfl,rfl⟩
noncomputable def Zv:Code:=seq1 (seq1 (ah 4 exC))
theorem adf:ah 4 exC = .seq (.seq Zv (.block 0 (.loop exL))) (ah 5 exC):=rfl
theorem Zu (L:Lst)(run:ar)(k:Nat)(hp0:List Blk)(n:Nat)(M:List (List Rat))(hM:M.length=n)(S:List Bool)(h5:5≤hp0.length)(hH:H0 hp0 M n S)(g:aA L run 110 [.sc (.int .i64 1),.sc (.int .i64 1)] (.agg (rcs 1))) :
  ∃ st,af (CC L) run k exC ⟨entry 56 [iv n,.ptr 0 0,.ptr 3 0,.ptr 4 0],hp0,[]⟩=some (.ret,st)∧st.hp=bO (aO hp0 rz) hp0.length ⟨.live,rcs 1⟩∧st.wr=aC [hp0.length] (aC [hp0.length] [])∧aZ TT st.fr st.hp Tryz.f109.results.toList=some [.agg (rcs 1)]:=by
 obtain⟨e0,e1,e2,e3,e4⟩:=Tm 52 (iv n) (.ptr 0 0) (.ptr 3 0) (.ptr 4 0)
 generalize entry 56 [iv n,.ptr 0 0,.ptr 3 0,.ptr 4 0]=fr0 at *
 obtain⟨p0,p2,p3,p4⟩:=hH
 have hl:=GJ M
 have hx:=al1 hp0 rz
 have hx1:=ee rz (rcs 1) (by rw[cG.len];rfl)
 have hx2:=al2 hp0 rz ⟨.live,rcs 1⟩
 have hx4:=ed (rcs 1) (cG.len _)
 have hok:=cG.okc 1
 have hlx:=cG.len 1
 have hp0':aV (aO hp0 rz) 0=some ⟨.live,[mC M]⟩:=by rw[bN,if_neg (by omega),p0]
 unfold aA at g
 generalize rcs 1=c1 at *
 have zR':=zRz
 rw[hM] at hl
 simp only[iv] at e1
 simp[exC,Tryz.f109,af,aJ,ao,aq,aH,ag,ai,aQ,aj,an,aF,FP.none,bd,au,bj,aw,bM,partOf,aa,ae,ab,bh,bn,ez,e0,e1,e2,hx,hx1,hx2,hx4,hok,hlx,hp0',hl,g,zR',Jt,Iq,kQ,aR,sR,aU,br,aZ]
theorem adg (L:Lst)(run:ar)(k:Nat)(hp0:List Blk)(row n:Nat)(M:List (List Rat))(hM:M.length=n)(hr:row<n)(S:List Bool)(h5:5≤hp0.length)(hH:H0 hp0 M n S) :
  ∃ fr fr',aY (CC L) run k 4 exC ⟨entry 56 [iv row,.ptr 0 0,.ptr 3 0,.ptr 4 0],hp0,[]⟩=some ⟨fr,aO (aO hp0 rz) rz,aC [hp0.length+1] (aC [hp0.length] [])⟩∧af (CC L) run k Zv ⟨fr,aO (aO hp0 rz) rz,aC [hp0.length+1] (aC [hp0.length] [])⟩=some (.normal,⟨fr',aO (aO hp0 rz) rz,aC [hp0.length+1] (aC [hp0.length] [])⟩)∧XF fr' hp0.length row n 0 false:=by
 obtain⟨e0,e1,e2,e3,e4⟩:=Tm 52 (iv row) (.ptr 0 0) (.ptr 3 0) (.ptr 4 0)
 generalize entry 56 [iv row,.ptr 0 0,.ptr 3 0,.ptr 4 0]=fr0 at *
 obtain⟨p0,p2,p3,p4⟩:=hH
 have hl:=GJ M
 have hp0':aV (aO hp0 rz) 0=some ⟨.live,[mC M]⟩:=by rw[bN,if_neg (by omega),p0]
 have hp3':aV (aO (aO hp0 rz) rz) 3=some ⟨.live,[.own 2 1 0 n true]⟩:=by
  rw[bN,if_neg (by simp[aO];omega),bN,if_neg (by omega),p3]
 have hl1:(aO hp0 rz).length=hp0.length+1:=by simp[aO]
 have zR':=zRz
 rw[hM] at hl
 have hne:((row:Int) == (n:Int))=false:=by rw[beq_eq_false_iff_ne];omega
 have hne2 : ¬ row=n:=by omega
 simp only[iv] at e1
 obtain⟨fr,a1,a0,a2,a3,a4,a5,a6,a7,a8⟩:∃ fr,aY (CC L) run k 4 exC ⟨fr0,hp0,[]⟩=some ⟨fr,aO (aO hp0 rz) rz,aC [hp0.length+1] (aC [hp0.length] [])⟩∧fr.length=56∧nth fr 0 = .sc (.int .i64 (row:Int))∧nth fr 1 = .ptr 0 0∧nth fr 2 = .ptr 3 0∧nth fr 3 = .ptr 4 0∧nth fr 5 = .ptr hp0.length 0∧nth fr 6 = .ptr (hp0.length+1) 0∧nth fr 7 = .sc (.bool false):=by
  simp[exC,Tryz.f109,aY,af,aJ,ao,aq,aH,ag,ai,aj,an,aF,FP.none,bd,au,bj,aw,bM,partOf,aa,ae,ab,bh,ez,e0,e1,e2,e3,e4,hp0',hl,hl1,hne,zR',Jt,Iq,kQ,aU,br]
 refine⟨fr,?_⟩
 rw[a1]
 simp[XF,iv,Zv,exC,Tryz.f109,ah,seq1,af,aJ,ao,aq,aH,ag,ai,aj,an,aF,FP.none,aw,bM,partOf,aa,ae,ab,bh,gw,ez,a0,a2,a3,a4,a5,a6,a7,a8,hp3',AQ,uK,Eu,aU,br]
theorem Zt (L:Lst)(run:ar)(k:Nat)(fr:List PV)(hp0 hp:List Blk)(wr:List Nat)(row n i:Nat)(neg:Bool)(sc:List PV)(u:Option Rat)(hc:Rc sc u)(h:XF fr hp0.length row n i neg)(hX:XH hp0 hp sc) :
  ∃ st,af (CC L) run k (ah 5 exC) ⟨fr,hp,wr⟩=some (.ret,st)∧st.hp=bO hp hp0.length ⟨.live,sc⟩∧st.wr=aC [hp0.length] wr∧aZ TT st.fr st.hp Tryz.f109.results.toList=some [.agg sc]:=by
 obtain⟨h0,h1,h2,h3,h4,h5,h6,h7,h8,h9⟩:=h
 obtain⟨q1,q2,q3,q4⟩:=hX
 have ht:=ed sc hc.len
 have ho:=ee rz sc (by rw[hc.len];rfl)
 have hs:=jG (b:=⟨.live,sc⟩) q3
 have hok:=hc.okc
 have hlx:=hc.len
 simp[exC,Tryz.f109,ah,af,aJ,ao,aq,aH,ag,ai,aj,an,aF,partOf,aa,ae,bh,bn,ez,h0,h5,h6,q3,q4,ht,ho,hs,hok,hlx,aR,sR,aU,br,aZ]
theorem wi (n:Nat):∀ S:List Bool,eA n (S.map bl)=true
 | []=>rfl
 | a::l=>by simp only[List.map_cons,eA,wi n l];rfl
theorem Td (L:Lst)(gm:bw L 56=fun a=>j8 (aK a))(ga:bw L 87=fun a=>iG (aK a))(gn:bw L 106=fun a=>jI (aK a))(gs:bw L 49=fun a=>iq (aK a))(gf:bw L 110=fun a=>Dh (aK a))(n:Nat)(M:List (List Rat)){k1:Nat}(hk:0<k1)(hM:M.length=n)(hn9:n<1000)(hR:∀ R ∈ M,R.length=n∧RbL k1 R)(h6:n*(k1+exB n k1 (n - 1)+1)+1+k1+exB n k1 (n - 1)≤1000000) :
  ∀ (rows:List (List Rat)) (row:Nat) (S:List Bool) (hp0:List Blk),M.drop row=rows→row+rows.length=n→S.length=n→5≤hp0.length→H0 hp0 M n S →
  ∃ hp' w,runK (CC L) (rows.length+n+3) 109 [iv row,.ptr 0 0,.ptr 3 0,.ptr 4 0] hp0=some ([.agg (cz (exU n rows S))],hp',w)∧hp0.length≤hp'.length∧(∀ i,i<hp0.length→aV hp' i=aV hp0 i)∧WB hp0.length w
 | [],row,S,hp0,hd,hl,hS,h5,hH=>by
  have e:row=n:=by simpa using hl
  subst e
  obtain⟨st,x1,x2,x3,x4⟩:=Zu L (runK (CC L) (row+2)) (row+2) hp0 row M hM S h5 hH (aek gf _)
  have hb:=jb zw rfl x1 x4
  rw[x2,x3] at hb
  have w0:WB hp0.length ([]:List Nat):=fun i hi=>by cases hi
  have e9:([]:List (List Rat)).length+row+3=row+2+1:=by rw[List.length_nil];omega
  rw[e9]
  exact⟨_,_,hb,by rw[al4];omega,fun i hi=>al3 hp0 rz _ i hi,(w0.add (WB.one (x:=hp0.length) (.inr (Nat.le_refl _)))).add (WB.one (x:=hp0.length) (.inr (Nat.le_refl _)))⟩
 | r::rs,row,S,hp0,hd,hl,hS,h5,hH=>by
  have hrow:row<M.length:=by rw[hM];simp at hl;omega
  have hdr:=List.drop_eq_getElem_cons hrow
  rw[hd] at hdr
  simp only[List.cons.injEq] at hdr
  obtain⟨er,ers⟩:=hdr
  have hRr:=hR _ (List.getElem_mem hrow)
  have hmono:exB n k1 rs.length≤exB n k1 (n - 1):=by
   have hle:rs.length≤n - 1:=by simp at hl;omega
   have step:∀ d,exB n k1 d≤exB n k1 (d+1):=by
    intro d
    show exB n k1 d≤n*(k1+exB n k1 d+1)+1
    have:1*(k1+exB n k1 d+1)≤n*(k1+exB n k1 d+1):=Nat.mul_le_mul_right _ (by omega)
    omega
   have:∀ a b,a≤b→exB n k1 a≤exB n k1 b:=by
    intro a b hab
    induction hab with
    | refl=>exact Nat.le_refl _
    | step _ ih=>exact Nat.le_trans ih (step _)
   exact this _ _ hle
  have hnm:n*(k1+exB n k1 rs.length+1)≤n*(k1+exB n k1 (n - 1)+1):=Nat.mul_le_mul_left _ (by omega)
  have hcall:Vm L (runK (CC L) (rs.length+n+3)) hp0 S row n (fun i=>exU n rs (S.set i true)):=by
   intro i hi hSi hp1 hl1 ho1 h12
   obtain⟨p0,p2,p3,p4⟩:=hH
   have H1:H0 hp1 M n (S.set i true):=⟨by rw[ho1 0 (by omega) (by omega),p0],h12,by rw[ho1 3 (by omega) (by omega),p3],by rw[ho1 4 (by omega) (by omega),p4]⟩
   obtain⟨hp',w,c1,c2,c3,c4⟩:=Td L gm ga gn gs gf n M hk hM hn9 hR h6 rs (row+1) (S.set i true) hp1 ers.symm (by simp at hl;omega) (by rw[List.length_set];exact hS) (by omega) H1
   have hold:∀ j ∈ kZ hp1.length w,j=2:=fun j hj=>by
    obtain⟨m1,m2⟩:=ld hj
    rcases c4 j m1 with h | h
    ·exact h
    ·omega
   refine⟨(kZ hp1.length w).length,?_⟩
   have hcc:=BG (L:=L) Ik c1 (by cases exU n rs (S.set i true) <;> rfl) c2 c3 (fun j hj b hb=>by
    rw[hold j hj,c3 2 (by omega),h12] at hb
    simp only[Option.some.injEq] at hb
    rw[← hb];exact wi _ _) true
   rw[Js hold] at hcc
   simpa [iv] using hcc
  obtain⟨fr,fr1,a1,a2,a3⟩:=adg L (runK (CC L) (rs.length+n+3)) (rs.length+n+3) hp0 row n M hM (by omega) S h5 hH
  have l1:(aO (aO hp0 rz) rz).length=hp0.length+2:=by simp[aO]
  have X0:XH hp0 (aO (aO hp0 rz) rz) (cz none):=by
   refine⟨by omega,fun i hi => ?_,?_,?_⟩
   ·rw[bN,if_neg (by simp[aO];omega),bN,if_neg (by omega)]
   ·rw[bN,if_neg (by simp[aO]),al1]
   ·have:hp0.length+1=(aO hp0 rz).length:=by simp[aO]
    rw[this,al1];rfl
  have w0:WB hp0.length ([]:List Nat):=fun i hi=>by cases hi
  have w1:=(w0.add (WB.one (x:=hp0.length) (.inr (Nat.le_refl _)))).add (WB.one (x:=hp0.length+1) (.inr (Nat.le_succ _)))
  obtain⟨fr2,hp2,wr2,b1,b2,b3,b4⟩:=Jb L (runK (CC L) (rs.length+n+3)) (rs.length+n+3) gm ga gn gs hp0 row n M S (fun i=>exU n rs (S.set i true)) (k1:=k1) (k2:=exB n k1 rs.length) hS (by omega) hn9 h5 hH hrow hRr.1 hk hRr.2 (fun i=>GU hk rs _ fun R hRm=>(hR R (by
   have:R ∈ M.drop (row+1):=by rw[← ers];exact hRm
   exact List.mem_of_mem_drop this)).2) (by omega) hcall n 0 fr1 _ _ (by omega) a3 X0 w1
  have eU:exU n (r::rs) S=(exS (fun i=>vv (exU n rs (S.set i true))) M[row] S n).1:=by rw[← er];rfl
  obtain⟨st,c1,c2,c3,c4⟩:=Zt L (runK (CC L) (rs.length+n+3)) (rs.length+n+3) fr2 hp0 hp2 wr2 row n n _ _ _ (zh _) b2 b3
  have hloop:af (CC L) (runK (CC L) (rs.length+n+3)) (rs.length+n+3) (.seq Zv (.block 0 (.loop exL))) ⟨fr,aO (aO hp0 rz) rz,aC [hp0.length+1] (aC [hp0.length] [])⟩=some (.normal,⟨fr2,hp2,wr2⟩):=by
   rw[av a2];exact bH (ca b1 (by omega))
  have hx:af (CC L) (runK (CC L) (rs.length+n+3)) (rs.length+n+3) exC ⟨entry 56 [iv row,.ptr 0 0,.ptr 3 0,.ptr 4 0],hp0,[]⟩=some (.ret,st):=by
   rw[aP 4 a1,adf,av hloop,c1]
  have hb:=jb zw rfl hx c4
  rw[c2,c3,← eU] at hb
  obtain⟨q1,q2,q3,q4⟩:=b3
  have e9:(r::rs).length+n+3=(rs.length+n+3)+1:=by simp;omega
  rw[e9]
  exact⟨_,_,hb,by rw[bF];omega,fun i hi=>by rw[lI (j:=i) q3 (by omega),q2 i hi],b4.add (WB.one (x:=hp0.length) (.inr (Nat.le_refl _)))⟩
theorem HL:base.F.get 62=some Tryz.f62:=by kernel_rfl
theorem Oz:base.shared 62=false:=by kernel_rfl
theorem bB:iT TT 4=some 1:=by kernel_rfl
theorem zB:eK TT 4=some [bl false]:=by kernel_rfl
theorem aaK:eK TT 140=some [.sc (.slice none 0 0)]:=by kernel_rfl
theorem zFn:eK TT 141=some [.sc .nilFunc]:=by kernel_rfl
theorem Hd (f:FuncId)(cs:List PV):(PV.clos f cs).cells?=some [.clos f cs]:=(rfl)
theorem Cy (f:FuncId)(cs:List PV):dw (PV.clos f cs)=true:=(rfl)
theorem Uk (M:List (List Rat)):(mC M).cells?=some [mC M]:=(rfl)
theorem Pf:∀ n,rep n [bl false]=(List.replicate n false).map bl
 | 0=>rfl
 | n+1=>by rw[rep,Pf n,List.replicate_succ];rfl
noncomputable def dtC:Code:=Tryz.f62.body.getD .skip
def dtH (M:List (List Rat))(n:Nat)(sc:List PV):List Blk:=[⟨.live,[mC M]⟩,⟨.live,sc⟩,⟨.live,(List.replicate n false).map bl⟩,⟨.live,[.own 2 1 0 n true]⟩,⟨.live,[fnP]⟩]
theorem adw (L:Lst)(run:ar)(k:Nat)(M:List (List Rat))(n:Nat)(hM:M.length=n)(hn:n≤1000) :
  ∃ fr wr,aY (CC L) run k 4 dtC ⟨entry 11 [mC M],[],[]⟩=some ⟨fr,dtH M n rz,wr⟩∧fr.length=11∧nth fr 2 = .ptr 1 0∧nth fr 4 = .ptr 4 0:=by
 obtain⟨e1,e2⟩:=cW 10 (mC M)
 generalize entry 11 [mC M]=fr0 at *
 have hl:=GJ M
 rw[hM] at hl
 have hm:n≤cY:=Nat.le_trans hn (by decide)
 have hrp:=Pf n
 have hb:[bl false].length=1:=rfl
 have hblf:(bl false) = .sc (.bool false):=rfl
 simp[dtC,Tryz.f62,aY,af,aJ,ao,aq,aH,ag,ai,aj,an,aF,aC,FP.none,bM,bm,partOf,aa,ae,ab,bh,and_assoc,M7,Gl,bg,e1,e2,hl,Uk,zRz,zFn,aaK,zB,bB,sB,hm,hrp,hb,kQ,Jt,Iq,Eu,uK,sFn,dtH,fnP,aO,aV,bO,cj,aU,br,cn,Hd,Cy]
theorem ZI (L:Lst)(run:ar)(k:Nat)(fr:List PV)(wr:List Nat)(M:List (List Rat))(n m:Nat)(sc:List PV)(u:Option Rat)(hc:Rc sc u)(h0:fr.length=11)(h2:nth fr 2 = .ptr 1 0)(h4:nth fr 4 = .ptr 4 0)(hcall:∀ dr,cg (CC L) run dr (dtH M n rz) 109 [.sc (.int .i64 0),.ptr 0 0,.ptr 3 0,.ptr 4 0]=some (.agg sc,dtH M n rz,⟨[],List.replicate m 2,true,true⟩)) :
  ∃ st,af (CC L) run k (ah 4 dtC) ⟨fr,dtH M n rz,wr⟩=some (.ret,st)∧aZ TT st.fr st.hp Tryz.f62.results.toList=some [.agg sc]:=by
 have ht:=ed sc hc.len
 have ho:=ee rz sc (by rw[hc.len];rfl)
 have hok:=hc.okc
 have hlx:=hc.len
 have k4:aV (dtH M n rz) 4=some ⟨.live,[fnP]⟩:=rfl
 have k1:aV (dtH M n rz) 1=some ⟨.live,rz⟩:=rfl
 have k1':aV (bO (dtH M n rz) 1 ⟨.live,sc⟩) 1=some ⟨.live,sc⟩:=rfl
 unfold fnP at k4
 simp[dtC,Tryz.f62,ah,af,aJ,ao,aq,aH,ag,ai,aQ,aj,an,aF,aC,aw,partOf,aa,ae,ab,bh,bn,h0,h2,h4,k4,k1,k1',hcall,ht,ho,hok,hlx,aR,sR,aFn,sFn,aU,br,aZ]
def Sq (n:Nat)(M:List (List Rat)):Prop:=M.length=n∧∀ R ∈ M,R.length=n∧RbL 1000 R
def wJ (M:List (List Rat)):Option Rat:=exU M.length M (List.replicate M.length false)
theorem acF {k:Nat}{M N:List (List Rat)}(hM:∀ R ∈ M,RbL k R)(hN:∀ R ∈ N,RbL k R)(h9:k≤2000000)(h:mC M=mC N):M=N:=by
 unfold mC gU at h
 simp only[PV.imm.injEq,true_and] at h
 obtain⟨-,h2⟩:=h
 induction M generalizing N with
 | nil=>cases N with
  | nil=>rfl
  | cons b N=>simp[eV] at h2
 | cons a M ih=>cases N with
  | nil=>simp[eV] at h2
  | cons b N =>
   simp only[List.flatMap_cons,eV,List.cons_append,List.nil_append,List.cons.injEq] at h2
   rw[Et (hM a List.mem_cons_self) (hN b List.mem_cons_self) h9 h2.1,ih (fun x hx=>hM x (List.mem_cons_of_mem _ hx)) (fun x hx=>hN x (List.mem_cons_of_mem _ hx)) h2.2]
noncomputable def Gg:List PV→Option (List PV):=ctr (fun M:List (List Rat)=>[mC M]) (fun M=>∃ n,n≤4∧Sq n M) fun M=>[rv (wJ M)]
theorem ado (n:Nat)(hn:n≤4):n*(1000+exB n 1000 (n - 1)+1)+1+1000+exB n 1000 (n - 1)≤1000000:=by
 have:n=0∨n=1∨n=2∨n=3∨n=4:=by omega
 rcases this with rfl | rfl | rfl | rfl | rfl <;> decide
theorem Gf:Ab.Spec base.P 62 Gg:=Ab.Spec.bQ (C:=CC LR1) (cV wZ) fun args rs h=>by
 obtain⟨M,⟨n,hn,hM,hR⟩,rfl,rfl⟩:=dz h
 obtain⟨fr,wr,a1,a2,a3,a4⟩:=adw LR1 (runK (CC LR1) (n+n+3)) (n+n+3) M n hM (by omega)
 have hH:H0 (dtH M n rz) M n (List.replicate n false):=⟨rfl,rfl,rfl,rfl⟩
 obtain⟨hp',w,c1,c2,c3,c4⟩:=Td LR1 rfl rfl rfl rfl rfl n M (k1:=1000) (by omega) hM (by omega) hR (ado n hn) M 0 (List.replicate n false) (dtH M n rz) rfl (by omega) (by simp) (Nat.le_refl 5) hH
 rw[hM] at c1
 have hold:∀ j ∈ kZ (dtH M n rz).length w,j=2:=fun j hj=>by
  obtain⟨m1,m2⟩:=ld hj
  rcases c4 j m1 with h | h
  ·exact h
  ·omega
 have hcc:=fun dr=>BG (L:=LR1) Ik c1 (by cases exU n M (List.replicate n false) <;> rfl) c2 c3 (fun j hj b hb=>by
  rw[hold j hj,c3 2 (show 2<5 by omega)] at hb
  have hb2:some (⟨.live,(List.replicate n false).map bl⟩:Blk)=some b:=hb
  simp only[Option.some.injEq] at hb2
  rw[← hb2];exact wi _ _) dr
 rw[Js hold] at hcc
 obtain⟨st,x1,x2⟩:=ZI LR1 (runK (CC LR1) (n+n+3)) (n+n+3) fr wr M n _ _ _ (zh _) a2 a3 a4 hcc
 have hx:af (CC LR1) (runK (CC LR1) (n+n+3)) (n+n+3) dtC ⟨entry 11 [mC M],[],[]⟩=some (.ret,st):=by
  rw[aP 4 a1,x1]
 have hd:wJ M=exU n M (List.replicate n false):=by unfold wJ;rw[hM]
 refine⟨_,_,_,_,_,_,aX HL rfl hx x2,(zh _).p.Ig _,?_,trivial⟩
 rw[hd]
 exact (zh _).p.wk
theorem aah {L:Lst}(hL:bw L 62=fun a=>Gg (aK a))(run:ar)(p:PV)(M:List (List Rat))(hp:∀ hp,bt (snap hp bp) [p]=some ([p],[]))(hc:canon p=mC M){n k:Nat}(hn:n≤4)(hk:k≤1000)(hM:M.length=n)(hR:∀ R ∈ M,R.length=n∧RbL k R):aA L run 62 [p] (rv (wJ M)):=fun dr hh =>
 jW Oz hL run dr hh _ [mC M] [rv (wJ M)] (hp hh) (by simp only[aK,hc]) (rN (e:=fun M:List (List Rat)=>[mC M]) (x:=M) (fun x y hx hy h=>by
  obtain⟨_,_,_,h1⟩:=hx
  obtain⟨_,_,_,h2⟩:=hy
  rw[acF (fun R hR=>(h1 R hR).2) (fun R hR=>(h2 R hR).2) (by omega) (by simpa using h)]) ⟨n,hn,hM,fun R hRm=>⟨(hR R hRm).1,fun x hx=>((hR R hRm).2 x hx).mono hk⟩⟩)
theorem Uo (M:List (List Rat)):canon (mT M)=mC M:=by
 unfold mT mC gU
 rw[canon]
 congr 1
 induction M with
 | nil=>rfl
 | cons a M ih =>
  rw[List.flatMap_cons,List.flatMap_cons,kK,ih]
  simp only[eT,eV,aK,zj]
end Go.Proofs.YtjdmodeenbdfpaaGreat
