/- Contracts of fractions, clouds and predicates, part 34 of the proof; each lemma states its own conditions. -/
import Derived.Test.YtjdmodeenbdfpaaGreatT33
set_option linter.unusedSimpArgs false
set_option linter.unusedVariables false
noncomputable section
namespace Go.Proofs.YtjdmodeenbdfpaaGreat
open Go Go.Ab List Tryz
attribute [local simp] FzZ aA aC aF aG aH aV aa ab ae af ag ah ai aj an and_assoc ao aq aw az bO bQ bc bd bj br partOf qF sU8 seq1 uW wf0 wf1 wxC
variable(L:Lst)(run:ar)(k:Nat)(fr:List PV)(hp:List Blk)(wr:List Nat)
def wxT:Code:=(aC (seq1 (ah 4 wxC))).getD .skip
theorem vC (l:List Nat)(i:Nat)(h:i<l.length):(br (l.map u8v) i).head?=some (.sc (.int .u8 (at0 l i:Int))):=by
 rw[mQ l i h,dm h];rfl
theorem Yq(lz:List Nat)(id n:Nat)(hn:n+1≤lz.length)(hn9:n<100000000)(hz:at0 lz n≠48)(h0:fr.length=81)(h1:nth fr 1 = .ptr 0 0)(h3:nth fr 3 = .own id 1 0 (n+1) false)(hb:aY hp id=some ⟨.live,lz.map u8v⟩) :
  ∃ fr',af (CC L) run k wxT ⟨fr,hp,wr⟩=some (.exit 4,⟨fr',hp,wr⟩)∧fr'.length=81∧nth fr' 1 = .ptr 0 0∧nth fr' 3 = .own id 1 0 (n+1) false:=by
 have hd:=vC lz n (by omega)
 have hw:bE .i64 (n:Int)=(n:Int):=cG .i64 n (hiI (by omega))
 have hz1:((at0 lz n:Int) == 48)=false:=by rw[beq_eq_false_iff_ne];omega
 generalize at0 lz n=a at *
 have hz2 : ¬ ((a:Int)=48):=by omega
 simp[wxT,f98,bg,bm,gW,h0,h1,h3,hb,hd,hw,hz1,a8]
theorem LO(lz:List Nat)(id n:Nat)(hn:n+1≤lz.length)(hn9:n<100000000)(hz:at0 lz n=48)(h0:fr.length=81)(h1:nth fr 1 = .ptr 0 0)(h3:nth fr 3 = .own id 1 0 (n+1) false)(hb:aY hp id=some ⟨.live,lz.map u8v⟩) :
  ∃ fr',af (CC L) run k wxT ⟨fr,hp,wr⟩=some (.normal,⟨fr',hp,wr⟩)∧fr'.length=81∧nth fr' 1 = .ptr 0 0∧nth fr' 3 = .own id 1 0 n false:=by
 have hd:=vC lz n (by omega)
 have hw:bE .i64 (n:Int)=(n:Int):=cG .i64 n (hiI (by omega))
 rw[hz] at hd
 simp[wxT,f98,bg,bm,gW,h0,h1,h3,hb,hd,hw,a8,dq,gQ,bnd,fk,gE]
theorem Cu (L:Lst)(run:ar)(k:Nat)(hp:List Blk)(wr:List Nat)(lz:List Nat)(id:Nat)(hb:aY hp id=some ⟨.live,lz.map u8v⟩):∀ (n:Nat) (fr:List PV),n+1≤lz.length→n<100000000→(∃ m,m<n+1∧at0 lz m≠48)→fr.length=81→nth fr 1 = .ptr 0 0→nth fr 3 = .own id 1 0 (n+1) false →
  ∃ fr' c,cu (af (CC L) run k wxT) (n+1) ⟨fr,hp,wr⟩=some (.exit 4,⟨fr',hp,wr⟩)∧fr'.length=81∧nth fr' 1 = .ptr 0 0∧nth fr' 3 = .own id 1 0 (c+1) false∧c≤n∧at0 lz c≠48∧∀ j,c<j→j<n+1→at0 lz j=48
 | n,fr,hn,hn9,hm,h0,h1,h3=>by
  by_cases hz:at0 lz n=48
  ·obtain⟨m,hm1,hm2⟩:=hm
   cases n with
   | zero =>
    have:m=0:=by omega
    subst this
    exact absurd hz hm2
   | succ n =>
    have hmn:m≠n+1:=fun e=>hm2 (by rw[e];exact hz)
    obtain⟨fr1,q1,q2,q3,q4⟩:=LO L run k fr hp wr lz id (n+1) hn hn9 hz h0 h1 h3 hb
    obtain⟨fr',c,s1,s2,s3,s4,s5,s6,s7⟩:=Cu L run k hp wr lz id hb n fr1 (by omega) (by omega) ⟨m,by omega,hm2⟩ q2 q3 q4
    refine⟨fr',c,by rw[ct q1];exact s1,s2,s3,s4,by omega,s6,fun j hj hj2 => ?_⟩
    by_cases e:j=n+1
    ·rw[e];exact hz
    ·exact s7 j hj (by omega)
  ·obtain⟨fr',q1,q2,q3,q4⟩:=Yq L run k fr hp wr lz id n hn hn9 hz h0 h1 h3 hb
   exact⟨fr',n,bD q1,q2,q3,q4,Nat.le_refl _,hz,fun j h1 h2=>by omega⟩
def wxN:Code:=seq1 (ah 5 wxC)
theorem PY(m:Bool)(l dd:List Nat)(h9:l.length<90000000)(h0:fr.length=81)(h1:nth fr 1 = .ptr 0 0)(hb:aY hp 0=some ⟨.live,[.sc (.bool m),aQ dd]⟩)(hO:dF u8v 1 hp l (nth fr 3)) :
  ∃ fr' hp' wr',af (CC L) run k wxN ⟨fr,hp,wr⟩=some (.normal,⟨fr',hp',wr'⟩)∧fr'.length=81∧dF u8v 1 hp' (l++(bif m then [45] else [])) (nth fr' 3):=by
 cases m with
 | false =>
  simp[wxN,f98,h0,h1,hb,hO,sB,aB]
 | true =>
  obtain⟨p',hp',fp,g1,g2,g3⟩:=hO.app 45 (by omega)
  have hlX:eL TT 43 1 [(0,.sc (.int .u8 45))]=some (1,[u8v 45]):=KY 45
  simp[wxN,f98,bh,lV,h0,h1,hb,hlX,Kq,tf,bU8,zU8,cg,g1,g2,sB,aB]
def wxS:Code:=(aC (seq1 (ah 6 wxC))).getD .skip
def LP:Code:=blk (seq1 (cw wxS))
theorem ahz:((Region.before (fx LP))[13]?.getD 0).testBit 7=true:=by kernel_rfl
theorem ahy:((Region.before (fx LP))[13]?.getD 0).testBit 11=true:=by kernel_rfl
theorem ahx:((Region.before (fx LP))[15]?.getD 0).testBit 7=true:=by kernel_rfl
theorem ahw:((Region.before (fx LP))[15]?.getD 0).testBit 11=true:=by kernel_rfl
theorem ahv:((Region.before (fx LP))[15]?.getD 0).testBit 13=true:=by kernel_rfl
theorem Yr(i j:Nat)(hij:j≤i+1)(h0:fr.length=81)(h6:nth fr 6=iv i)(h7:nth fr 7 = .sc (.int .i64 ((j:Int) - 1))) :
  ∃ fr',af (CC L) run k wxS ⟨fr,hp,wr⟩=some (.exit 6,⟨fr',hp,wr⟩)∧fr'.length=81∧nth fr' 3=nth fr 3:=by
 have hlt : ¬ ((i:Int)<(j:Int) - 1):=by omega
 simp only[iv] at h6
 simp[wxS,f98,h0,h6,h7,hlt]
set_option maxHeartbeats 8000000 in
theorem LQ(lz:List Nat)(id n i j:Nat)(hn9:n<100000000)(hn:n≤lz.length)(hb:aY hp id=some ⟨.live,lz.map u8v⟩)(hij:i<j)(hj:j<n)(h0:fr.length=81)(h3:nth fr 3 = .own id 1 0 n false)(h6:nth fr 6=iv i)(h7:nth fr 7 = .sc (.int .i64 (j:Int))) :
  ∃ fr' wr',af (CC L) run k wxS ⟨fr,hp,wr⟩=some (.normal,⟨fr',bZ (bZ hp id ⟨.live,(lz.set i (at0 lz j)).map u8v⟩) id ⟨.live,((lz.set i (at0 lz j)).set j (at0 lz i)).map u8v⟩,wr'⟩)∧fr'.length=81∧nth fr' 3 = .own id 1 0 n false∧nth fr' 6=iv (i+1)∧nth fr' 7 = .sc (.int .i64 ((j:Int) - 1)):=by
 have hin:i<n:=by omega
 have hil:i<lz.length:=by omega
 have hjl:j<lz.length:=by omega
 have hw1:=cU j (Nat.lt_trans (Nat.lt_trans hj hn9) (by decide))
 have hwi:=bH i (Nat.lt_trans (Nat.lt_trans hin hn9) (by decide))
 have hd1:=vC lz i hil
 have hd2:=vC lz j hjl
 have hov:=kA (e:=u8v) lz i (at0 lz j) hil
 have hov2:=kA (e:=u8v) (lz.set i (at0 lz j)) j (at0 lz i) (by rw[length_set];exact hjl)
 have hsb:aY (bZ hp id ⟨.live,(lz.set i (at0 lz j)).map u8v⟩) id=some ⟨.live,(lz.set i (at0 lz j)).map u8v⟩:=by rw[cT hb,if_pos rfl]
 generalize at0 lz i=a at *
 generalize at0 lz j=c at *
 have hb1:=ahz
 have hb2:=ahy
 have hb3:=ahx
 have hb4:=ahw
 have hb5:=ahv
 simp[-Nat.testBit_zero,LP,wxS,blk,f98,cw,fx] at hb1 hb2 hb3 hb4 hb5
 simp only[iv] at h6 ⊢
 simp[-Nat.testBit_zero,-map_set,hb1,hb2,hb3,hb4,hb5,wxS,f98,bg,bm,bh,Fp,lV,h0,h3,h6,h7,a8,hb,hsb,hij,hin,hj,hw1,hwi,hd1,hd2,hov,hov2,ade a,ade c,number,FP.free,cH,FP.apart]
theorem CI:∀ {ds:List Nat},Dok ds→T.val (ds.flatMap (T.di 9))=val ds
 | [],_=>rfl
 | a::l,h=>by
  have h1:T.val (T.di 9 a)=a:=T.fA 9 a (Nat.lt_of_lt_of_le h.head (by decide))
  rw[flatMap_cons,T.iz,h1,T.dC,CI h.tail]
  rfl
theorem KN:∀ (ds:List Nat),T.Dok (ds.flatMap (T.di 9))
 | []=>T.Dok.nil
 | a::l=>by rw[flatMap_cons];exact (T.gU 9 a).append (KN l)
theorem zj {F:List Nat}(h:∀ m,m<F.length→at0 F m=0):T.val F=0:=by
 have:F=List.replicate F.length 0:=BW (by simp) fun m hm=>by rw[h m hm,dm (by simpa using hm)];simp
 rw[this,T.oK]
theorem QC {F:List Nat}(h:T.val F≠0):∃ m,m<F.length∧at0 F m≠0:=by
 apply Classical.byContradiction
 intro hn
 refine h (zj fun m hm => ?_)
 apply Classical.byContradiction
 intro he
 exact hn ⟨m,hm,he⟩
theorem acT (F:List Nat)(m:Nat)(h:m<F.length):at0 (F.map (· + 48)) m=at0 F m+48:=by
 rw[dm (by simpa using h),dm h];simp
theorem Mg {F:List Nat}(hF:T.Dok F){c:Nat}(hc:c<F.length)(h1:at0 F c≠0)(h2:∀ j,c<j→j<F.length→at0 F j=0):F.take (c+1)=T.aK (T.val F):=by
 have e:=(take_append_drop (c+1) F)
 have hz:T.val (F.drop (c+1))=0:=zj fun m hm=>by
  have:at0 (F.drop (c+1)) m=at0 F (c+1+m):=by unfold at0;rw[getElem?_drop]
  rw[this]
  rw[length_drop] at hm
  exact h2 _ (by omega) (by omega)
 have hv:T.val F=T.val (F.take (c+1)):=by
  conv=>lhs;rw[← e]
  rw[T.iz,hz,Nat.mul_zero,Nat.add_zero]
 rw[hv]
 refine (T.kF (hF.take _) ?_).symm
 intro m a ea
 have hl:=congrArg List.length ea
 rw[length_take,Nat.min_eq_left (by omega),length_append] at hl
 simp only[length_cons,length_nil] at hl
 have h3:at0 (F.take (c+1)) c=a:=by
  rw[ea];unfold at0
  rw[getElem?_append_right (by omega)]
  have:c - m.length=0:=by omega
  rw[this];rfl
 have h4:at0 (F.take (c+1)) c=at0 F c:=by unfold at0;rw[getElem?_take_of_lt (by omega)]
 rw[← h3,h4]
 exact h1
def Ys:Code:=seq1 (seq1 (ah 3 wxC))
def JI:Code:=seq1 (seq1 (ah 6 wxC))
theorem adJ:ah 3 wxC = .seq (.seq Ys (.block 0 (.loop wxO))) (ah 4 wxC):=rfl
theorem adI:ah 4 wxC = .seq (.block 4 (.loop wxT)) (ah 5 wxC):=rfl
theorem adH:ah 5 wxC = .seq wxN (ah 6 wxC):=rfl
theorem adG:ah 6 wxC = .seq (.seq JI (.block 6 (.loop wxS))) (ah 7 wxC):=rfl
theorem Yo(m:Bool):∃ st,af (CC L) run k wxC ⟨entry 81 [.agg [.sc (.bool m),aQ []]],[],[]⟩=some (.ret,st)∧aU TT st.fr st.hp f98.results.toList=some [zs 0]:=by
 obtain⟨e1,e2⟩:=cW 80 (.agg [.sc (.bool m),aQ []])
 generalize entry 81 [.agg [.sc (.bool m),aQ []]]=fr0 at *
 have hz:zs 0 = .sc (.string { data:=#[48] }):=rfl
 rw[hz]
 simp[f98,e1,e2,cB,bp,aM,aY,uD,sD,aD,aU]
theorem adM (L:Lst)(run:ar)(k:Nat)(m:Bool)(l:List Nat)(hl:l≠[]) :
  ∃ fr wr,aX (CC L) run k 2 wxC ⟨entry 81 [.agg [.sc (.bool m),aQ l]],[],[]⟩=some ⟨fr,[⟨.live,[.sc (.bool m),aQ l]⟩],wr⟩∧fr.length=81∧nth fr 1 = .ptr 0 0:=by
 obtain⟨e1,e2⟩:=cW 80 (.agg [.sc (.bool m),aQ l])
 generalize entry 81 [.agg [.sc (.bool m),aQ l]]=fr0 at *
 have hl0:((l.length:Int) == 0)=false:=by
  rw[beq_eq_false_iff_ne]
  have:l.length≠0:=fun e=>hl (length_eq_zero_iff.1 e)
  omega
 simp[f98,aX,e1,e2,cB,bp,aM,aY,uD,sD,aD,hl0]
def adN:Code:=seq1 (ah 2 wxC)
theorem adK:ah 2 wxC = .seq adN (ah 3 wxC):=rfl
theorem ahu (L:Lst)(run:ar)(k:Nat)(fr:List PV)(b:Blk)(wr:List Nat)(m:Bool)(l:List Nat)(c:Nat)(hb:b=⟨.live,[.sc (.bool m),aQ l]⟩)(hw1:bE .i64 (9*(l.length:Int))=(c:Int))(hw2:bE .i64 ((c:Int)+1)=(c:Int)+1)(hm2:c+1≤cS)(h0:fr.length=81)(h1:nth fr 1 = .ptr 0 0) :
  ∃ fr' wr',af (CC L) run k adN ⟨fr,[b],wr⟩=some (.normal,⟨fr',[b,⟨.live,[]⟩],wr'⟩)∧fr'.length=81∧nth fr' 1 = .ptr 0 0∧nth fr' 3 = .own 1 1 0 0 false:=by
 subst hb
 simp[adN,f98,h0,h1,ke,jr,cB,aM,aY,uD,sD,aD,hw1,hw2,hm2,bU8,zU8,cg,rep]
theorem aht(m:Bool)(l:List Nat)(h0:fr.length=81)(h1:nth fr 1 = .ptr 0 0)(hb:aY hp 0=some ⟨.live,[.sc (.bool m),aQ l]⟩) :
  ∃ fr',af (CC L) run k Ys ⟨fr,hp,wr⟩=some (.normal,⟨fr',hp,wr⟩)∧WF fr' l 0∧nth fr' 3=nth fr 3:=by
 simp[WF,iv,Ys,f98,h0,h1,hb,cB,uD,sD,aD]
theorem adL(n:Nat)(hn9:n<100000000)(h0:fr.length=81)(h3:dn (nth fr 3)=some n) :
  ∃ fr',af (CC L) run k JI ⟨fr,hp,wr⟩=some (.normal,⟨fr',hp,wr⟩)∧fr'.length=81∧nth fr' 3=nth fr 3∧nth fr' 6=iv 0∧nth fr' 7 = .sc (.int .i64 ((n:Int) - 1)):=by
 have hw:=cU n (by omega)
 simp[iv,JI,f98,h0,h3,hw]
theorem Yp(l:List Nat)(hl:Bok l)(h0:fr.length=81)(hO:dF u8v 1 hp l (nth fr 3)) :
  ∃ st,af (CC L) run k (ah 7 wxC) ⟨fr,hp,wr⟩=some (.ret,st)∧aU TT st.fr st.hp f98.results.toList=some [.sc (.string (tx l))]:=by
 obtain⟨ids,h1⟩:=hO.s.rd
 have h2:=FB hl
 have hcv:dS TT hp 43 94 (nth fr 3)=some (.sc (.string (tx l)),ids):=by
  have h3:tx l=mkStr (l.map UInt8.ofNat):=rfl
  rw[h3]
  obtain⟨-,h⟩:=hO
  rcases h with ⟨rfl,h⟩| ⟨id,m,-,-,h,-⟩
  ·rw[h] at h1 ⊢
   simp only[dS,qF,uAI,u8T,h1,h2]
  ·rw[h] at h1 ⊢
   simp only[dS,qF,uAI,u8T,h1,h2]
 simp[f98,h0,hcv,aU]
theorem Cv (L:Lst)(run:ar)(k:Nat)(l z:List Nat)(id n:Nat)(hn9:n<100000000)(hn:l.length=n):∀ (d i:Nat) (fr:List PV) (hp:List Blk) (wr cur:List Nat),i+d=n / 2→cur.length=n→id<hp.length→aY hp id=some ⟨.live,(cur++z).map u8v⟩ →
  (∀ m,m<n→at0 cur m=if m<i∨n - i≤m then at0 l (n - 1 - m) else at0 l m)→fr.length=81→nth fr 3 = .own id 1 0 n false→nth fr 6=iv i→nth fr 7 = .sc (.int .i64 ((n:Int) - 1 - i)) →
  ∃ (fr':List PV) (hp':List Blk) (wr':List Nat),cu (af (CC L) run k wxS) (d+1) ⟨fr,hp,wr⟩=some (.exit 6,⟨fr',hp',wr'⟩)∧fr'.length=81∧nth fr' 3 = .own id 1 0 n false∧id<hp'.length∧aY hp' id=some ⟨.live,(l.reverse++z).map u8v⟩
 | 0,i,fr,hp,wr,cur,hd,hc,hid,hb,hI,h0,h3,h6,h7=>by
  obtain⟨fr',g1,g2,g3⟩:=Yr L run k fr hp wr i (n - i) (by omega) h0 h6 (by rw[h7];congr 2;omega)
  have e:cur=l.reverse:=BW (by simp[hc,hn]) fun m hm=>by
   rw[hc] at hm
   rw[hI m hm,Lz l m (by omega),hn]
   by_cases h1:m<i∨n - i≤m
   ·rw[if_pos h1]
   ·rw[if_neg h1]
    congr 1
    omega
  refine⟨fr',hp,wr,bD g1,g2,by rw[g3,h3],hid,?_⟩
  rw[← e];exact hb
 | d+1,i,fr,hp,wr,cur,hd,hc,hid,hb,hI,h0,h3,h6,h7=>by
  obtain⟨j,hj⟩:∃ j,n=i+j+1:=⟨n - i - 1,by omega⟩
  have hij:i<j:=by omega
  obtain⟨fr1,wr1,g1,g2,g3,g4,g5⟩:=LQ L run k fr hp wr (cur++z) id n i j hn9 (by simp;omega) hb hij (by omega) h0 h3 h6 (by rw[h7];congr 2;omega)
  have ha:at0 (cur++z) i=at0 cur i:=by unfold at0;rw[getElem?_append_left (by omega)]
  have hb':at0 (cur++z) j=at0 cur j:=by unfold at0;rw[getElem?_append_left (by omega)]
  have e1:((cur++z).set i (at0 cur j)).set j (at0 cur i)=((cur.set i (at0 cur j)).set j (at0 cur i))++z:=by
   rw[set_append_left _ _ (by omega),set_append_left _ _ (by rw[length_set];omega)]
  rw[ha,hb',e1] at g1
  have hb1:aY (bZ (bZ hp id ⟨.live,((cur++z).set i (at0 cur j)).map u8v⟩) id ⟨.live,(((cur.set i (at0 cur j)).set j (at0 cur i))++z).map u8v⟩) id=some ⟨.live,(((cur.set i (at0 cur j)).set j (at0 cur i))++z).map u8v⟩:=by
   rw[cT (b0:=⟨.live,((cur++z).set i (at0 cur j)).map u8v⟩) (by rw[cT hb,if_pos rfl]),if_pos rfl]
  have hai:=hI i (by omega)
  have haj:=hI j (by omega)
  rw[if_neg (by omega)] at hai haj
  obtain⟨fr',hp',wr',q1,q2⟩:=Cv L run k l z id n hn9 hn d (i+1) fr1 _ wr1 ((cur.set i (at0 cur j)).set j (at0 cur i)) (by omega) (by simp[hc]) (by rw[bL,bL];exact hid) hb1
   (fun m hm=>by
    rw[mZ _ _ _ _ (by rw[length_set];omega),mZ _ _ _ _ (by omega)]
    by_cases e2:m=j
    ·rw[if_pos e2,hai,if_pos (by omega)]
     congr 1
     omega
    ·rw[if_neg e2]
     by_cases e3:m=i
     ·rw[if_pos e3,haj,if_pos (by omega)]
      congr 1
      omega
     ·rw[if_neg e3,hI m hm]
      by_cases e4:m<i∨n - i≤m
      ·rw[if_pos e4,if_pos (by omega)]
      ·rw[if_neg e4,if_neg (by omega)]) g2 g3 g4 (by rw[g5];congr 2;omega)
  exact⟨fr',hp',wr',by rw[ct g1];exact q1,q2⟩
theorem Mf(z:Int)(hz:z≠0)(h9:(aK z.natAbs).length<1000000)(hk:9*(aK z.natAbs).length+20≤k) :
  ∃ st,af (CC L) run k wxC ⟨entry 81 [bt z],[],[]⟩=some (.ret,st)∧aU TT st.fr st.hp f98.results.toList=some [zs z]:=by
 have hne:aK z.natAbs≠[]:=fun e=>hz (by have:=yh e;omega)
 have hv:val (aK z.natAbs)=z.natAbs:=cj _
 have hok:=cb z.natAbs
 have hm:∃ m,m=bA z:=⟨_,rfl⟩
 obtain⟨m,hm⟩:=hm
 have hz2:=iG z
 rw[← hm] at hz2
 show ∃ st,af (CC L) run k wxC ⟨entry 81 [.agg [.sc (.bool (bA z)),aQ (aK z.natAbs)]],[],[]⟩=some (.ret,st)∧_
 rw[← hm]
 have hz3:z.natAbs≠0:=by omega
 generalize aK z.natAbs=ds at *
 obtain⟨fra,wra,z1,z2,z3⟩:=adM L run k m ds hne
 rw[aO 2 z1,adK]
 obtain⟨fr,wr,a1,a2,a3,a4⟩:=ahu L run k fra _ wra m ds (9*ds.length) rfl (by rw[show 9*(ds.length:Int)=((9*ds.length:Nat):Int) by omega];exact cG .i64 _ (hiI (Nat.le_trans (show 9*ds.length≤9000000 by omega) (by decide)))) (bH _ (Nat.lt_of_le_of_lt (show 9*ds.length≤9000000 by omega) (by decide))) (Nat.le_trans (show 9*ds.length+1≤9000001 by omega) (by decide)) z2 z3
 rw[av a1,adJ]
 obtain⟨fr1,b1,b2,b3⟩:=aht L run k fr [⟨.live,[.sc (.bool m),aQ ds]⟩,⟨.live,[]⟩] wr m ds a2 a3 rfl
 have hO:dF u8v 1 [⟨.live,[.sc (.bool m),aQ ds]⟩,⟨.live,[]⟩] [] (nth fr1 3):=by
  rw[b3,a4]
  exact⟨by simp,.inr ⟨1,[],by simp,by simp,rfl,rfl⟩⟩
 obtain⟨fr2,hp2,wr2,c1,c2,c3,c4⟩:=Cw L run k (by omega) ds hok h9 ds.length 0 fr1 _ wr [] (by omega) rfl b2 hO
 have hgo:=bN (i:=0) (ca c1 (show ds.length+1≤k by omega))
 have hA:af (CC L) run k (.seq Ys (.block 0 (.loop wxO))) ⟨fr,[⟨.live,[.sc (.bool m),aQ ds]⟩,⟨.live,[]⟩],wr⟩=some (.normal,⟨fr2,hp2,wr2⟩):=by
  rw[av b1];exact hgo
 rw[av hA,adI]
 obtain⟨h0,h1,-⟩:=c2
 rw[nil_append,drop_zero] at c3
 have hF:=KN ds
 have hFv:=CI hok
 have hFl:(ds.flatMap (T.di 9)).length=9*ds.length:=by
  have:=(Sc1.ec jh)
  rw[length_flatMap]
  simp only[T.dC]
  rw[map_const',sum_replicate_nat,Nat.mul_comm]
 generalize ds.flatMap (T.di 9)=F at *
 obtain⟨-,hO2⟩:=c3
 rcases hO2 with ⟨e,-⟩| ⟨id,mm,i1,i2,i3,i4⟩
 ·have:F.length=0:=by have:=congrArg List.length e;simpa using this
  have:ds.length≠0:=fun e=>hne (length_eq_zero_iff.1 e)
  omega
 ·have hdl:ds.length≠0:=fun e=>hne (length_eq_zero_iff.1 e)
  rw[length_map] at i3
  obtain⟨n,hn⟩:∃ n,F.length=n+1:=⟨F.length - 1,by omega⟩
  obtain⟨p,hp1,hp2'⟩:=QC (F:=F) (by rw[hFv,hv];exact hz3)
  have at_lz:∀ j,j<F.length→at0 (F.map (· + 48)++mm) j=at0 F j+48:=fun j hj=>by
   rw[← acT F j hj]
   unfold at0
   rw[getElem?_append_left (by simpa using hj)]
  rw[hn] at i3
  obtain⟨fr3,c,s1,s2,s3,s4,s5,s6,s7⟩:=Cu L run k hp2 wr2 (F.map (· + 48)++mm) id i4 n fr2 (by simp;omega) (by omega) ⟨p,by omega,by rw[at_lz p hp1];omega⟩ h0 h1 i3
  rw[av (bN (i:=4) (ca s1 (show n+1≤k by omega))),adH]
  have hcF:c<F.length:=by omega
  have hT:F.take (c+1)=T.aK z.natAbs:=by
   rw[← hv,← hFv]
   refine Mg hF hcF ?_ fun j h1 h2 => ?_
   ·rw[at_lz c hcF] at s6;omega
   ·have:=s7 j h1 (by omega)
    rw[at_lz j h2] at this
    omega
  have hO3:dF u8v 1 hp2 ((T.aK z.natAbs).map (· + 48)) (nth fr3 3):=by
   refine⟨by omega,.inr ⟨id,(F.drop (c+1)).map (· + 48)++mm,i1,i2,?_,?_⟩⟩
   ·rw[s4,← hT];simp;omega
   ·rw[i4,← hT,← append_assoc,← map_append,take_append_drop]
  have hlen:(T.aK z.natAbs).length<90000000:=by rw[← hT,length_take];omega
  have hb0:aY hp2 0=some ⟨.live,[.sc (.bool m),aQ ds]⟩:=by rw[c4];rfl
  obtain⟨fr4,hp4,wr4,t1,t2,t3⟩:=PY L run k fr3 hp2 wr2 m _ ds (by simpa using hlen) s2 s3 hb0 hO3
  rw[av t1,adG]
  generalize hl:(T.aK z.natAbs).map (· + 48)++(bif m then [45] else [])=l at *
  have hll:l.length≤(T.aK z.natAbs).length+1:=by
   rw[← hl];cases m <;> simp
  have hlk:(T.aK z.natAbs).length≤9*ds.length:=by rw[← hT,length_take];omega
  obtain⟨fr5,u1,u2,u3,u4,u5⟩:=adL L run k fr4 hp4 wr4 l.length (by omega) t2 t3.s.len
  have hO4:=t3
  obtain⟨-,hO4⟩:=hO4
  rcases hO4 with ⟨e,-⟩| ⟨id',z',j1,j2,j3,j4⟩
  ·have h2:(T.aK z.natAbs).length≤l.length:=by rw[← hl];simp
   rw[e,length_nil] at h2
   have:=T.da.2 hz3
   omega
  ·obtain⟨fr6,hp6,wr6,v1,v2,v3,v4,v5⟩:=Cv L run k l z' id' l.length (by omega) rfl (l.length / 2) 0 fr5 hp4 wr4 l (by omega) rfl j2 j4 (fun m hm=>by rw[if_neg (by omega)]) u2 (by rw[u3,j3]) u4 (by rw[u5];simp)
   have hB:af (CC L) run k (.seq JI (.block 6 (.loop wxS))) ⟨fr4,hp4,wr4⟩=some (.normal,⟨fr6,hp6,wr6⟩):=by
    rw[av u1];exact bN (i:=6) (ca v1 (show l.length / 2+1≤k by omega))
   rw[av hB]
   have hr:l.reverse=ztx z:=by
    rw[← hl,reverse_append,← map_reverse]
    have:ztx z=itx m z.natAbs:=by rw[vB,hz2]
    rw[this,itx,if_neg hz3]
    cases m <;> rfl
   have hO5:dF u8v 1 hp6 (ztx z) (nth fr6 3):=by
    refine⟨by omega,.inr ⟨id',z',j1,v4,?_,?_⟩⟩
    ·rw[v3,← hr,length_reverse]
    ·rw[v5,hr]
   exact Yp L run k fr6 hp6 wr6 (ztx z) (lp z) v2 hO5
def QH:List PV→Option (List PV):=ctr (fun z:Int=>[bt z]) (fun z=>Nb 2000000 z) fun z=>[zs z]
theorem VR {x y:Int}(hx:Sm x)(hy:Sm y)(h:bt x=bt y):x=y:=by
 have h1:=cM hx
 rw[h,cM hy] at h1
 exact (Option.some.inj h1).symm
theorem Me:Ab.Spec base.P 98 QH:=Ab.Spec.bM (C:=CC []) (cP trivial) fun args rs h=>by
 obtain⟨z,hz,rfl,rfl⟩:=cN h
 have h9:(aK z.natAbs).length<400000:=hz.sm (by omega)
 by_cases h0:z=0
 ·subst h0
  obtain⟨st,x1,x2⟩:=Yo [] (runK (CC []) 1) 1 false
  exact⟨2,_,_,_,_,_,aP A9 rfl x1 x2,rfl,Wk.refl rfl,trivial⟩
 ·obtain⟨st,x1,x2⟩:=Mf [] (runK (CC []) (9*(aK z.natAbs).length+20)) (9*(aK z.natAbs).length+20) z h0 (by omega) (by omega)
  exact⟨_,_,_,_,_,_,aP A9 rfl x1 x2,rfl,Wk.refl rfl,trivial⟩
theorem XO {L:Lst}(hL:bu L 98=fun a=>QH (aJ a))(run:ar)(z:Int){k:Nat}(hz:Nb k z)(hk:k≤2000000):au L run 98 [bt z] (zs z) :=
 fH YZ hL (fun x y hx hy h=>by
  have h1:bt x=bt y:=by simpa using h
  rw[VR (hx.sm (by omega)) (hy.sm (by omega)) h1]) run z (hz.mono hk) (m4 · z) (kb z)
theorem adi:∀ (k x:Nat),x<10 ^ k→x<10 ^ nd k x
 | 0,x,h=>by simpa [nd] using h
 | k+1,x,h=>by
  by_cases h0:x=0
  ·subst h0;simp[nd]
  ·have:=adi k (x / 10) (by rw[Nat.pow_succ] at h;omega)
   rw[nd,qk h0,cond_false,Nat.pow_succ]
   omega
theorem adh:∀ (k x:Nat),x≠0→x<10 ^ k→∃ e,nd k x=e+1∧10 ^ e≤x
 | 0,x,h0,h=>by simp at h;exact absurd h h0
 | k+1,x,h0,h=>by
  rw[nd,qk h0,cond_false]
  by_cases h1:x / 10=0
  ·refine⟨0,?_,by omega⟩
   rw[h1]
   cases k <;> simp[nd]
  ·obtain⟨e,he,hl⟩:=adh k (x / 10) h1 (by rw[Nat.pow_succ] at h;omega)
   refine⟨e+1,by rw[he],?_⟩
   rw[Nat.pow_succ]
   omega
theorem Wj (m:Nat){j:Nat}(hj:0<j):qe (aK m)≤j ↔ m<10 ^ j:=by
 have hok:=cb m
 have ht:=jK m
 have hv:=cj m
 unfold qe
 cases hl:(aK m).getLast? with
 | none =>
  have:aK m=[]:=by simpa using hl
  have:=yh this
  subst this
  simp
  exact Nat.pow_pos (by omega)
 | some a =>
  obtain⟨l,e⟩:∃ l,aK m=l++[a]:=⟨(aK m).dropLast,by rw[getLast?_eq_some_iff] at hl;obtain⟨ys,h⟩:=hl;rw[h];simp⟩
  rw[e] at hok hv ⊢
  have ha0:=ht l a e
  have ha9:a<10 ^ 9:=Nat.lt_of_lt_of_le (hok a (by simp)) (by decide)
  have h1:=adi 9 a ha9
  obtain⟨q,h2,h3⟩:=adh 9 a ha0 ha9
  rw[dP] at hv
  have hvl:=fh hok.left
  have e9:(1000000000:Nat) ^ l.length=10 ^ (9*l.length):=by
   have:(1000000000:Nat)=10 ^ 9:=by decide
   rw[this,← Nat.pow_mul]
  rw[e9] at hv hvl
  have hp:0<10 ^ (9*l.length):=Nat.pow_pos (by omega)
  simp only[length_append,length_cons,length_nil,Nat.zero_add,Nat.add_sub_cancel]
  have hup:m<10 ^ (9*l.length+nd 9 a):=by
   rw[Nat.pow_add,← hv]
   calc val l+10 ^ (9*l.length)*a<10 ^ (9*l.length)+10 ^ (9*l.length)*a:=by omega
    _=10 ^ (9*l.length)*(a+1):=by rw[Nat.mul_succ];omega
    _≤_:=Nat.mul_le_mul_left _ h1
  have hlo:10 ^ (9*l.length+q)≤m:=by
   rw[Nat.pow_add,← hv]
   exact Nat.le_trans (Nat.mul_le_mul_left _ h3) (by omega)
  constructor
  ·intro h
   exact Nat.lt_of_lt_of_le hup (Nat.pow_le_pow_right (by omega) h)
  ·intro h
   have h4:=Nat.lt_of_le_of_lt hlo h
   have:=(Nat.pow_lt_pow_iff_right (by omega:1<10)).1 h4
   omega
theorem Wl (z:Int):decide (1000<qe (aK z.natAbs)) = !pB (Nb 1000 z):=by
 have h:=Wj z.natAbs (j:=1000) (by omega)
 by_cases hn:Nb 1000 z
 ·have:=h.2 hn
  rw[kz hn,decide_eq_false (by omega)];rfl
 ·have : ¬ qe (aK z.natAbs)≤1000:=fun e=>hn (h.1 e)
  rw[jT hn,decide_eq_true (by omega)];rfl
theorem Xz {k:Nat} : Nb (k+1) 1:=Nat.one_lt_pow (by omega) (by omega)
theorem vN {k:Nat} : Nb k 0:=Nat.pow_pos (by omega)
theorem M6 {u:Option Rat}{j:Nat}(hu:Rb j (vv u))(h:j≤1000000):mv [rv u]=some [.sc (.bool (!pB (Rb 1000 (vv u))))]:=by
 obtain⟨b,b1,b2,b3,b4⟩:=m9 hu (by omega)
 simp only[mv,b3,Wl]
 have hb:Nb 1000 b ↔ Nb 1000 (vv u).den:=by
  rw[← b2]
  unfold dL
  split
  ·rename_i e
   subst e
   exact⟨fun _=>Xz,fun _=>vN⟩
  ·exact Iff.rfl
 by_cases h1:Nb 1000 (vv u).num
 ·by_cases h2:Nb 1000 b
  ·rw[kz h1,kz h2,kz ⟨h1,hb.1 h2⟩];rfl
  ·rw[kz h1,jT h2,jT fun e=>h2 (hb.2 e.2)];rfl
 ·have h3 : ¬ Rb 1000 (vv u):=fun e=>h1 e.1
  rw[jT h1,jT h3];simp
theorem sG {s:ByteArray}{z:Int}(h:bys s=ztx z):fl s=z∧iR s=true:=by
 unfold fl iR
 rw[Hb h]
 exact⟨rfl,rfl⟩
theorem mA {s:ByteArray}(h:iR s=true):bys s=ztx (fl s):=by
 unfold iR at h
 cases e:ib s with
 | none=>rw[e] at h;cases h
 | some z=>rw[tR e];unfold fl;rw[e]
theorem Jd {l:List Nat}{z:Int}{k:Nat}(h:l=ztx z)(h9:l.length≤k):Nb k z:=by
 rw[h,gN] at h9
 have:=vO z
 unfold Ab.eH at h9 this
 exact (tk (by omega)).1 (by omega)
theorem FJ (s:ByteArray){k:Nat}(h9:(bys s).length≤k):Nb k (fl s):=by
 unfold fl
 cases e:ib s with
 | none=>exact vN
 | some z=>exact Jd (tR e) h9
theorem Nb.gcd {k:Nat}{d:Int}(h:Nb k d)(n:Int)(h0:d≠0):Nb k (Int.ofNat (Nat.gcd n.natAbs d.natAbs)):=by
 unfold Nb at *
 refine Nat.lt_of_le_of_lt ?_ h
 exact Nat.le_of_dvd (by omega) (Nat.gcd_dvd_right _ _)
theorem Nb.ajH {k:Nat}{n:Int}(h:Nb k n)(d:Int)(h0:n≠0):Nb k (Int.ofNat (Nat.gcd n.natAbs d.natAbs)):=by
 unfold Nb at *
 refine Nat.lt_of_le_of_lt ?_ h
 exact Nat.le_of_dvd (by omega) (Nat.gcd_dvd_left _ _)
theorem Nb.ajG {k:Nat}{n d:Int}(h:Nb k n)(h':Nb k d):Nb k (Int.ofNat (Nat.gcd n.natAbs d.natAbs)):=by
 by_cases h0:n=0
 ·by_cases h1:d=0
  ·subst h0;subst h1;exact h
  ·exact h'.gcd n h1
 ·exact h.ajH d h0
theorem ahW (s:ByteArray)(h9:(bys s).length≤1000000):∃ n d,rrF [.sc (.string s)]=some [cl n d,.sc (.bool (pB (IsQ s)))]∧(∀ x,s=qb x→cl n d=rv (some x))∧Nb 1000000 n∧Nb 1000000 d:=by
 obtain⟨c1,c2,c3,c4⟩:=acA s (by omega)
 have hl:=vp (bys s)
 have hb:(bys s).length.blt 3000000=true:=by rw[Nat.blt_eq];omega
 have hnA:Nb 1000000 (fl (jN s)):=FJ _ (by rw[c2];omega)
 simp only[rrF,hb,c1,Bool.and_self,cond_true]
 cases hk:iR (jN s) && vf s with
 | false =>
  rw[cond_false]
  refine⟨fl (jN s),1,?_,?_,hnA,(Xz (k:=0)).mono (by omega)⟩
  ·have e:iR (jN s)=pB (IsQ s):=by
    cases hA:iR (jN s) with
    | false =>
     rw[jT]
     rintro⟨x,hx⟩
     have h1:=lr x
     rw[← hx] at h1
     have h2:=(sG (s:=jN s) (z:=x.num) (by rw[c2,h1])).2
     rw[hA] at h2;cases h2
    | true =>
     rw[hA,Bool.true_and] at hk
     rw[kz]
     exact⟨_,KW (by rw[← c3,hk]) (by rw[← c2];exact mA hA)⟩
   rw[e]
  ·intro x hx
   have h1:=lr x
   rw[← hx] at h1
   have h2:=sG (s:=jN s) (z:=x.num) (by rw[c2,h1])
   rw[h2.2,Bool.true_and,c3,h1] at hk
   have h3:(x.den:Int)=1:=by simpa using hk
   rw[h2.1,oQ,h3]
 | true =>
  rw[cond_true]
  simp only[Bool.and_eq_true] at hk
  have hB:=c4 hk.2
  have hzA:=mA hk.1
  rw[c2] at hzA
  have hs2:(spl (bys s)).2.2=true:=by rw[← c3];exact hk.2
  have hnB:Nb 1000000 (fl (jM s)):=by
   refine FJ _ ?_
   rw[hB]
   unfold spl at hs2 ⊢
   cases e:fS (bys s) with
   | none=>rw[e] at hs2;cases hs2
   | some j=>simp only[length_drop];omega
  generalize fl (jN s)=n at *
  unfold aee
  rw[hnA.smB (by omega),hnB.smB (by omega),(hnA.ajG hnB).smB (by omega)]
  simp only[Bool.and_self,cond_true]
  cases hbad:wH (iR (jM s)) n.sign (fO (fl (jM s)) 1) (fO (Int.ofNat (Nat.gcd n.natAbs (fl (jM s)).natAbs)) 1) with
  | true =>
   rw[cond_true]
   have hno : ¬ IsQ s:=by
    intro hq
    cases hkB:iR (jM s) with
    | false =>
     obtain⟨x,hx⟩:=hq
     have h1:=lr x
     rw[← hx] at h1
     have:=(sG (s:=jM s) (z:=x.den) (by rw[hB,h1])).2
     rw[hkB] at this;cases this
    | true =>
     have hzB:=mA hkB
     rw[hB] at hzB
     obtain⟨q1,q2,q3⟩:=EN hs2 hzA hzB hq
     rw[hkB,q3] at hbad
     have e1:(n.sign == 0)=false:=by rw[beq_eq_false_iff_ne];exact fun e=>q1 (Int.sign_eq_zero_iff_zero.1 e)
     have e2:decide (fO (fl (jM s)) 1≤0)=false:=by
      rw[decide_eq_false_iff_not]
      unfold fO
      rw[if_neg (by omega),if_neg (by omega)];decide
     unfold wH at hbad
     rw[e1,e2] at hbad
     revert hbad
     decide
   refine⟨0,0,by rw[jT hno],fun x hx=>absurd ⟨x,hx⟩ hno,vN,vN⟩
  | false =>
   rw[cond_false]
   unfold wH at hbad
   simp only[Bool.or_eq_false_iff,Bool.not_eq_false',beq_eq_false_iff_ne,decide_eq_false_iff_not,bne_eq_false_iff_eq] at hbad
   obtain⟨hkB,-,h2,h3⟩:=hbad
   have hzB:=mA hkB
   rw[hB] at hzB
   have hd:2≤fl (jM s):=by
    unfold fO at h2
    by_cases h4:fl (jM s)<1
    ·rw[if_pos h4] at h2;exact absurd (by decide) h2
    ·rw[if_neg h4] at h2
     by_cases h5:fl (jM s)=1
     ·rw[if_pos h5] at h2;exact absurd (by decide) h2
     ·omega
   have hg:Nat.gcd n.natAbs (fl (jM s)).natAbs=1:=by
    unfold fO at h3
    generalize Nat.gcd n.natAbs (fl (jM s)).natAbs=g at *
    by_cases h4:Int.ofNat g<1
    ·rw[if_pos h4] at h3;exact absurd h3 (by decide)
    ·rw[if_neg h4] at h3
     by_cases h5:Int.ofNat g=1
     ·exact Int.ofNat.inj h5
     ·rw[if_neg h5] at h3;exact absurd h3 (by decide)
   obtain⟨x,hx,e1,e2⟩:=EM hs2 hzA hzB hd hg
   refine⟨n,fl (jM s),by rw[kz ⟨x,hx⟩],fun y hy => ?_,hnA,hnB⟩
   have:x=y:=pR (by rw[← hx,← hy])
   subst this
   rw[oQ,e1,e2]
end Go.Proofs.YtjdmodeenbdfpaaGreat
end
