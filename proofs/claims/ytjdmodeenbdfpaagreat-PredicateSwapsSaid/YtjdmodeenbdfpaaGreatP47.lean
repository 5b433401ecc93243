/- Contracts of the law and of what it calls, and facts about determinants, part 47 of the proof; each lemma states its own conditions. -/
import Derived.Test.YtjdmodeenbdfpaaGreatP45
import Derived.Test.YtjdmodeenbdfpaaGreatP46
import Derived.Test.YtjdmodeenbdfpaaGreatP43
set_option linter.unusedSimpArgs false
set_option linter.unusedVariables false
namespace Go.Proofs.YtjdmodeenbdfpaaGreat
open Go Go.Ab
theorem OK:base.shared 12=false:=by kernel_rfl
theorem n6:base.F.get 4=some Tryz.f4:=by kernel_rfl
theorem Zy {L:Lst}(hL:bt L 12=fun a=>I5 [] (aJ a))(run:aq):av L run 12 [] (.sc (.bool true)):=fun dr hp =>
 bp OK hL run dr hp _ [.sc (.bool true)] rfl rfl rfl
def e1n (n:Nat):List PV:=[iv n]
theorem Jw:Ec 1 e1n where
 len:=fun _=>rfl
 okc:=fun _=>rfl
 can:=fun _=>rfl
 idf:=fun _=>rfl
 sn:=fun _ _ _=>rfl
theorem YJ (l:List Nat):gB e1n l=aN l:=by
 unfold aN aE gB
 rw[List.length_map]
 congr 1
 induction l with
 | nil=>rfl
 | cons a l ih=>rw[List.map_cons,List.flatMap_cons,List.flatMap_cons,ih];rfl
noncomputable def swC:Code:=Tryz.f4.body.getD .skip
theorem Oj (L:Lst)(run:aq)(k:Nat)(c:List (List ByteArray))(P:List PV)(i j:PV)(lg:Bool)(e:Nat)(h:lg=true∨e≠0∨c.length=0)(g1:av L run 11 [cE c] (.sc (.bool lg)))(g2:lg=false→av L run 22 [cE c] (iv e))(g3:av L run 12 [] (.sc (.bool true))) :
  ∃ st,af (CC L) run k swC ⟨entry 150 [cE c,.agg P,i,j],[],[]⟩=some (.ret,st)∧aZ TT st.fr st.hp Tryz.f4.results.toList=some [.sc (.bool true)]:=by
 obtain⟨e0,e1,e2,e3,e4⟩:=AU 146 (cE c) (.agg P) i j
 generalize entry 150 [cE c,.agg P,i,j]=fr0 at *
 have hl:=gx c
 unfold av at g1 g2 g3
 cases lg with
 | true=>simp[swC,Tryz.f4,af,aH,an,ao,aG,ag,ai,aP,aj,ak,aC,az,FP.none,au,aa,ae,ab,bg,e0,e1,e2,g1,g3,aM,undef,aZ]
 | false =>
  have g2':=g2 rfl
  simp only[iv] at g2'
  by_cases h0:e=0
  ·subst h0
   have hc:c.length=0:=by rcases h with h | h | h <;> first | cases h | exact absurd rfl h | exact h
   rw[hc] at hl
   simp only[Int.cast_ofNat_Int] at g2'
   simp[swC,Tryz.f4,af,aH,an,ao,aG,ag,ai,aP,aj,ak,aC,az,FP.none,bc,ar,bd,au,bH,aa,ae,ab,bf,bg,e0,e1,e2,g1,g2',g3,hl,uCl,aM,undef,aZ]
  ·have hb:((e:Int) != 0)=true:=by simp;omega
   simp[swC,Tryz.f4,af,aH,an,ao,aG,ag,ai,aP,aj,ak,aC,az,FP.none,bc,ar,bd,au,aa,ae,ab,bg,e0,e1,e2,g1,g2',g3,hb,aM,undef,aZ]
theorem aax (L:Lst)(run:aq)(k:Nat)(c:List (List ByteArray))(P:List PV)(i j:PV)(hc:c.length≠0)(g1:av L run 11 [cE c] (.sc (.bool false)))(g2:av L run 22 [cE c] (iv 0))(g3:av L run 12 [] (.sc (.bool true))) :
  ∃ fr wr,aY (CC L) run k 3 swC ⟨entry 150 [cE c,.agg P,i,j],[],[]⟩=some ⟨fr,[⟨.live,P⟩],wr⟩∧fr.length=150∧nth fr 0=cE c∧nth fr 2=i∧nth fr 3=j∧nth fr 5 = .ptr 0 0∧nth fr 9 = .sc (.slice none 0 0):=by
 obtain⟨e0,e1,e2,e3,e4⟩:=AU 146 (cE c) (.agg P) i j
 generalize entry 150 [cE c,.agg P,i,j]=fr0 at *
 have hl:=gx c
 have hl0:((c.length:Int) == 0)=false:=by rw[beq_eq_false_iff_ne];omega
 have hcn : ¬ c=[]:=fun e=>hc (by rw[e];rfl)
 unfold av at g1 g2 g3
 simp only[iv,Int.cast_ofNat_Int] at g2
 simp[swC,Tryz.f4,aY,af,aH,an,ao,aG,ag,ai,aP,aj,ak,aC,az,FP.none,bc,ar,bd,au,bH,unP,aa,ae,ab,bf,and_assoc,bg,e0,e1,e2,e3,e4,g1,g2,g3,hl,hl0,uCl,aM]
noncomputable def swB:Code:=(aF (seq1 (ah 3 swC))).getD .skip
def SwF (fr:List PV)(X:List (List Rat))(i j:PV)(n:Nat):Prop:=fr.length=150∧nth fr 0=qC X∧nth fr 2=i∧nth fr 3=j∧nth fr 5 = .ptr 0 0∧nth fr 10=iv n
theorem uA5:und TT 36=some (.array 5 5):=by kernel_rfl
theorem IL {X:List (List Rat)}(h:0<X.length):∃ r,ba TT 23 (qC X) (.sc (.int .i64 0))=some (.iptr r)∧r.head?=some (qL X[0]):=by
 have hX':0<(X.map fun P=>P.map qb).length:=by simpa using h
 obtain⟨r',y1,y2⟩:=je uCl (X.map fun P=>P.map qb) 0 hX'
 have e4:pE (X.map fun P=>P.map qb)[0]=qL X[0]:=by rw[List.getElem_map];rfl
 rw[e4] at y2
 exact⟨r',y1,y2⟩
theorem Ss (P:List Rat):eM (qL P)=some P.length:=by simp[qL,pE,gB,eM]
theorem Su (X:List (List Rat)):eM (qC X)=some X.length:=by simp[qC,cE,gB,eM]
theorem aay (L:Lst)(run:aq)(k:Nat)(fr:List PV)(hp:List Blk)(wr:List Nat)(X:List (List Rat))(i j:PV)(hX:0<X.length)(h:SwF fr X i j (X[0].length+1)) :
  ∃ fr',af (CC L) run k swB ⟨fr,hp,wr⟩=some (.exit 0,⟨fr',hp,wr⟩)∧SwF fr' X i j (X[0].length+1)∧nth fr' 9=nth fr 9:=by
 obtain⟨h0,h1,h2,h3,h5,h10⟩:=h
 obtain⟨r,y1,y2⟩:=IL hX
 have hl:=Ss X[0]
 generalize qL X[0]=p at *
 generalize X[0].length=m at *
 have hlt:((m:Int)+1≤(m:Int))=False:=by
  apply propext
  constructor
  ·intro h;omega
  ·intro h;exact h.elim
 simp only[iv] at h10
 simp[SwF,iv,swB,swC,Tryz.f4,ah,seq1,aF,af,aH,an,ao,aG,ag,ai,aj,ak,aC,az,FP.none,bc,ar,bd,au,bH,partOf,aa,ae,ab,bf,and_assoc,h0,h1,h2,h3,h5,h10,y1,y2,hl,hlt,uPt,aPt,sPt,aU]
theorem Oi (L:Lst)(run:aq)(k:Nat)(fr:List PV)(hp:List Blk)(wr:List Nat)(X:List (List Rat))(i j:PV)(n:Nat)(l out:List Nat)(hX:0<X.length)(hX9:X.length<1000)(hn:n≤X[0].length)(hl5:l.length=5)(hn5:n<5)(hl9:∀ x ∈ l,x<256)(ho9:out.length≤5)(hb:aV hp 0=some ⟨.live,l.map u8v⟩)(hO:gE 1 e1n 1 hp out (nth fr 9))(h:SwF fr X i j n) :
  ∃ fr' hp' wr',af (CC L) run k swB ⟨fr,hp,wr⟩=some (.normal,⟨fr',hp',wr'⟩)∧SwF fr' X i j (n+1)∧gE 1 e1n 1 hp' (out++[l[n] % X.length]) (nth fr' 9)∧aV hp' 0=aV hp 0:=by
 obtain⟨h0,h1,h2,h3,h5,h10⟩:=h
 obtain⟨r,y1,y2⟩:=IL hX
 have hl:=Ss X[0]
 have hlX:=Su X
 have hle:((n:Int)≤(X[0].length:Int)):=by omega
 have hnl:n<l.length:=by omega
 have hd:=jC (e:=u8v) l n hnl
 rw[show u8v l[n] = .sc (.int .u8 (l[n]:Int)) from rfl] at hd
 have hln:l[n]<256:=hl9 _ (List.getElem_mem _)
 obtain⟨m,hm⟩:∃ m,m=l[n] % X.length:=⟨_,rfl⟩
 rw[← hm]
 have hm9:m<1000:=by rw[hm];exact Nat.lt_trans (Nat.mod_lt _ hX) hX9
 have htm:=ub l[n] X.length m hm
 have hw1:=cb .i64 l[n] (hiI (Nat.le_trans (Nat.le_of_lt hln) (by decide)))
 have hw2:=bF n (Nat.lt_trans hn5 (by decide))
 obtain⟨p',hp',fp,a1,a2,a3,-⟩:=hO.app Jw.toEl [m] (by simp) (by simp;omega)
 have a4:=a3 0 (by omega)
 rw[show [m].flatMap e1n=[iv m] from rfl,show [m].length=1 from rfl] at a1
 have hlX':fZ TT 24 1 [(0,.sc (.int .i64 (m:Int)))]=some (1,[iv m]):=lR m
 have hX0:X.length≠0:=by omega
 have hXn : ¬ X=[]:=fun e=>hX0 (by rw[e];rfl)
 have hb':=hb
 generalize hz:l[n]=z at *
 generalize l.map u8v=cs at *
 generalize qL X[0]=p at *
 have hi5:ba TT 36 (.ptr 0 0) (.sc (.int .i64 (n:Int)))=some (.ptr 0 n):=by
  simp only[ba,uA5,bj,sU8,hn5,if_true,Nat.zero_add,Nat.mul_one]
 have hid:bK [PV.sc (.int .i64 (m:Int))]=true:=rfl
 have hrd:∀ hp,fe hp 1 (.imm 1 true [PV.sc (.int .i64 (m:Int))])=some (1,[PV.sc (.int .i64 (m:Int))],[]):=fun hp=>jP hp m
 simp only[iv] at h10 a1 hlX'
 simp[SwF,iv,swB,swC,Tryz.f4,ah,seq1,aF,af,aH,an,ao,aG,ag,ai,aj,ak,aC,az,FP.none,bc,ar,bd,au,bH,partOf,aa,ae,ab,bf,and_assoc,GC,aX,h0,h1,h2,h3,h5,h10,y1,y2,hid,hrd,hl,hlX,hle,hb',hd,hi5,htm,hw1,hw2,hlX',hX0,dn,uI,u8T,uPt,uCl,aPt,sPt,a8,sU8,uL,sI,bI,zI,bS,aU,a1,a2,a4]
theorem Ik (L:Lst)(run:aq)(k:Nat)(X:List (List Rat))(i j:PV)(l:List Nat)(hX:0<X.length)(hX9:X.length<1000)(hm:X[0].length≤3)(hl5:l.length=5)(hl9:∀ x ∈ l,x<256):∀ (d n:Nat) (fr:List PV) (hp:List Blk) (wr:List Nat) (out:List Nat),n+d=X[0].length+1→out=(l.take n).map (· % X.length)→aV hp 0=some ⟨.live,l.map u8v⟩→gE 1 e1n 1 hp out (nth fr 9)→SwF fr X i j n →
  ∃ fr' hp' wr',bX (af (CC L) run k swB) (d+1) ⟨fr,hp,wr⟩=some (.exit 0,⟨fr',hp',wr'⟩)∧SwF fr' X i j (X[0].length+1)∧gE 1 e1n 1 hp' ((l.take (X[0].length+1)).map (· % X.length)) (nth fr' 9)∧aV hp' 0=some ⟨.live,l.map u8v⟩
 | 0,n,fr,hp,wr,out,hnd,ho,hb,hO,h=>by
  have e:n=X[0].length+1:=by omega
  subst e
  obtain⟨fr',q1,q2,q3⟩:=aay L run k fr hp wr X i j hX h
  exact⟨fr',hp,wr,bw q1,q2,by rw[q3,← ho];exact hO,hb⟩
 | d+1,n,fr,hp,wr,out,hnd,ho,hb,hO,h=>by
  obtain⟨fr1,hp1,wr1,q1,q2,q3,q4⟩:=Oi L run k fr hp wr X i j n l out hX hX9 (by omega) hl5 (by omega) hl9 (by rw[ho];simp;omega) hb hO h
  obtain⟨fr',hp',wr',s1,s2⟩:=Ik L run k X i j l hX hX9 hm hl5 hl9 d (n+1) fr1 hp1 wr1 _ (by omega) (by
   rw[ho,List.take_succ_eq_append_getElem (by omega),List.map_append];rfl) (by rw[q4,hb]) q3 q2
  exact⟨fr',hp',wr',by rw[bV q1];exact s1,s2⟩
noncomputable def Vy:Code:=seq1 (seq1 (ah 3 swC))
noncomputable def Bv:Code:=seq1 (ah 6 swC)
theorem aav:ah 3 swC = .seq (.seq Vy (.block 0 (.loop swB))) (ah 4 swC):=rfl
theorem Oh:ah 6 swC = .seq Bv (ah 7 swC):=rfl
theorem adw (L:Lst)(run:aq)(k:Nat)(fr:List PV)(hp:List Blk)(wr:List Nat)(X:List (List Rat))(i j p:PV)(h0:fr.length=150)(h1:nth fr 0=qC X)(h2:nth fr 2=i)(h3:nth fr 3=j)(h5:nth fr 5 = .ptr 0 0)(h9:nth fr 9=p) :
  ∃ fr',af (CC L) run k Vy ⟨fr,hp,wr⟩=some (.normal,⟨fr',hp,wr⟩)∧SwF fr' X i j 0∧nth fr' 9=p:=by
 simp[SwF,iv,Vy,seq1,ah,swC,Tryz.f4,af,aH,an,ao,aG,ag,ai,aj,ak,aC,az,FP.none,au,aa,ae,ab,and_assoc,h0,h1,h2,h3,h5,h9]
theorem aaw (L:Lst)(run:aq)(k:Nat)(fr:List PV)(hp:List Blk)(wr:List Nat)(X:List (List Rat))(l:List Nat)(a b n m q x y:Nat)(p:PV)(hl5:l.length=5)(hl9:∀ x ∈ l,x<256)(ha:a<256)(hb:b<256)(hX:X.length=m)(hm0:0<m)(hm9:m<1000)(hn0:0<n)(hn9:n<1000)(hq:q=l[4]'(by omega) % m)(hx:x=a % n)(hy:y=b % n)(hbk:aV hp 0=some ⟨.live,l.map u8v⟩)(hp9:nth fr 9=p)(hpl:eM p=some n){t:Nat}(h:SwF fr X (u8v a) (u8v b) t) :
  ∃ fr',aY (CC L) run k 2 (ah 4 swC) ⟨fr,hp,wr⟩=some ⟨fr',hp,wr⟩∧fr'.length=150∧nth fr' 0=qC X∧nth fr' 9=p∧nth fr' 11=iv q∧nth fr' 12=iv x∧nth fr' 13=iv y:=by
 obtain⟨h0,h1,h2,h3,h5,h10⟩:=h
 have hlX:=Su X
 rw[hX] at hlX
 have h4l:4<l.length:=by omega
 have hd:=jC (e:=u8v) l 4 h4l
 rw[show u8v (l[4]'h4l) = .sc (.int .u8 ((l[4]'h4l:Nat):Int)) from rfl] at hd
 have hln:(l[4]'h4l)<256:=hl9 _ (List.getElem_mem _)
 have htm:=ub (l[4]'h4l) m q hq
 have htx:=ub a n x hx
 have hty:=ub b n y hy
 have hw1:=cb .i64 (l[4]'h4l) (hiI (Nat.le_trans (Nat.le_of_lt hln) (by decide)))
 have hwa:=cb .i64 a (hiI (Nat.le_trans (Nat.le_of_lt ha) (by decide)))
 have hwb:=cb .i64 b (hiI (Nat.le_trans (Nat.le_of_lt hb) (by decide)))
 have hb':=hbk
 have hi5:ba TT 36 (.ptr 0 0) (.sc (.int .i64 4))=some (.ptr 0 4):=by
  simp only[ba,uA5]
  rfl
 have hm0':m≠0:=by omega
 have hn0':n≠0:=by omega
 clear hq hx hy
 generalize (l[4]'h4l)=z at *
 generalize l.map u8v=cs at *
 simp only[u8v] at h2 h3
 simp[iv,aY,swC,Tryz.f4,ah,af,aH,an,ao,aG,ag,ai,aj,ak,aC,az,FP.none,bc,ar,bd,au,bH,partOf,aa,ae,ab,bf,h0,h1,h2,h3,h5,hp9,hpl,hlX,hb',hd,hi5,htm,htx,hty,hw1,hwa,hwb,hm0',hn0',dn,uI,u8T,uCl,nP,a8,sU8,aU,number,FP.free]
theorem Vv (L:Lst)(run:aq)(k:Nat)(fr:List PV)(hp:List Blk)(wr:List Nat)(x:Nat)(h0:fr.length=150)(h12:nth fr 12=iv x)(h13:nth fr 13=iv x) :
  ∃ st,af (CC L) run k Bv ⟨fr,hp,wr⟩=some (.ret,st)∧aZ TT st.fr st.hp Tryz.f4.results.toList=some [.sc (.bool true)]:=by
 simp only[iv] at h12 h13
 simp[Bv,seq1,swC,Tryz.f4,ah,af,aH,an,ao,aG,ag,ai,aj,ak,aC,az,FP.none,bc,ar,bd,au,aa,ae,ab,h0,h12,h13,aZ]
theorem Vw (L:Lst)(run:aq)(k:Nat)(fr:List PV)(hp:List Blk)(wr:List Nat)(X:List (List Rat))(p:PV)(q x y:Nat)(hxy:x≠y)(h0:fr.length=150)(h1:nth fr 0=qC X)(h9:nth fr 9=p)(h11:nth fr 11=iv q)(h12:nth fr 12=iv x)(h13:nth fr 13=iv y) :
  ∃ fr',af (CC L) run k Bv ⟨fr,hp,wr⟩=some (.normal,⟨fr',hp,wr⟩)∧fr'.length=150∧nth fr' 0=qC X∧nth fr' 9=p∧nth fr' 11=iv q∧nth fr' 12=iv x∧nth fr' 13=iv y:=by
 have hne:((x:Int) == (y:Int))=false:=by rw[beq_eq_false_iff_ne];omega
 simp only[iv] at h11 h12 h13
 simp[iv,Bv,seq1,swC,Tryz.f4,ah,af,aH,an,ao,aG,ag,ai,aj,ak,aC,az,FP.none,bc,ar,bd,aa,ae,ab,h0,h1,h9,h11,h12,h13,hne]
noncomputable def Ok:Code:=seq1 (ah 7 swC)
noncomputable def oW:Code:=seq1 (ah 8 swC)
theorem aau:ah 7 swC = .seq Ok (ah 8 swC):=rfl
theorem aat:ah 8 swC = .seq oW (ah 9 swC):=rfl
theorem adB:((Region.before (ie oW))[13]?.getD 0).testBit 7=true:=by kernel_rfl
theorem adA:((Region.before (ie oW))[13]?.getD 0).testBit 11=true:=by kernel_rfl
theorem adz:((Region.before (ie oW))[15]?.getD 0).testBit 7=true:=by kernel_rfl
theorem ady:((Region.before (ie oW))[15]?.getD 0).testBit 11=true:=by kernel_rfl
theorem adx:((Region.before (ie oW))[15]?.getD 0).testBit 13=true:=by kernel_rfl
theorem Vx (L:Lst)(run:aq)(k:Nat)(fr:List PV)(hp:List Blk)(wr:List Nat)(X:List (List Rat))(p:PV)(q x y n:Nat)(cs:List PV)(ids:List Nat)(hn0:n≠0)(hn9:n<1000)(hok:aX cs=true)(hr:fe hp 1 p=some (n,cs,ids))(h0:fr.length=150)(h1:nth fr 0=qC X)(h9:nth fr 9=p)(h11:nth fr 11=iv q)(h12:nth fr 12=iv x)(h13:nth fr 13=iv y) :
  ∃ fr' wr',af (CC L) run k Ok ⟨fr,hp,wr⟩=some (.normal,⟨fr',aM hp cs,wr'⟩)∧fr'.length=150∧nth fr' 0=qC X∧nth fr' 9=p∧nth fr' 11=iv q∧nth fr' 12=iv x∧nth fr' 13=iv y∧nth fr' 14 = .own hp.length 1 0 n false:=by
 have hm:n≤cI:=Nat.le_trans (Nat.le_of_lt hn9) (by decide)
 have hl0:fZ TT 24 0 []=some (1,[]):=ZY
 have hap:∀ hp,cO hp 1 (.imm 0 true []) n cs=some (.own hp.length 1 0 n false,aM hp cs,⟨[],[hp.length],true,false⟩):=fun hp=>by
  simp only[cO]
  rw[if_neg hn0,if_pos ⟨by omega,rfl⟩]
  simp
 have hid:bK ([]:List PV)=true:=rfl
 simp only[iv] at h11 h12 h13
 simp[iv,Ok,seq1,swC,Tryz.f4,ah,af,aH,an,ao,aG,ag,ai,aj,ak,aC,az,FP.none,au,aa,ae,ab,bf,and_assoc,h0,h1,h9,h11,h12,h13,hl0,hid,hr,hok,hap,uL,sI,bI,zI,bS]
set_option maxHeartbeats 8000000 in
theorem Vu (L:Lst)(run:aq)(k:Nat)(fr:List PV)(hp:List Blk)(wr:List Nat)(X:List (List Rat))(p:PV)(l:List Nat)(id q x y n:Nat)(hn:l.length=n)(hx:x<n)(hy:y<n)(hb:aV hp id=some ⟨.live,l.map iv⟩)(h0:fr.length=150)(h1:nth fr 0=qC X)(h9:nth fr 9=p)(h11:nth fr 11=iv q)(h12:nth fr 12=iv x)(h13:nth fr 13=iv y)(h14:nth fr 14 = .own id 1 0 n false) :
  ∃ fr' wr',af (CC L) run k oW ⟨fr,hp,wr⟩=some (.normal,⟨fr',bP (bP hp id ⟨.live,(l.set x (at0 l y)).map iv⟩) id ⟨.live,((l.set x (at0 l y)).set y (at0 l x)).map iv⟩,wr'⟩)∧fr'.length=150∧nth fr' 0=qC X∧nth fr' 9=p∧nth fr' 11=iv q∧nth fr' 14 = .own id 1 0 n false:=by
 have hd1:=eP l x (by omega)
 have hd2:=eP l y (by omega)
 have hov:=jA (e:=iv) l x (at0 l y) (by omega)
 have hov2:=jA (e:=iv) (l.set x (at0 l y)) y (at0 l x) (by rw[List.length_set];omega)
 have hsb:aV (bP hp id ⟨.live,(l.set x (at0 l y)).map iv⟩) id=some ⟨.live,(l.set x (at0 l y)).map iv⟩:=by rw[cD hb,if_pos rfl]
 have hix:ba TT 24 (.own id 1 0 n false) (.sc (.int .i64 (x:Int)))=some (.ptr id x):=by
  simp only[ba,nP,bj,sI,hx,and_self,if_true,Nat.zero_add,Nat.mul_one]
 have hiy:ba TT 24 (.own id 1 0 n false) (.sc (.int .i64 (y:Int)))=some (.ptr id y):=by
  simp only[ba,nP,bj,sI,hy,and_self,if_true,Nat.zero_add,Nat.mul_one]
 generalize at0 l x=a at *
 generalize at0 l y=c at *
 have hb1:=adB
 have hb2:=adA
 have hb3:=adz
 have hb4:=ady
 have hb5:=adx
 simp[-Nat.testBit_zero,oW,seq1,swC,Tryz.f4,ah,ie] at hb1 hb2 hb3 hb4 hb5
 simp only[iv] at h11 h12 h13 ⊢
 simp[-Nat.testBit_zero,-List.map_set,hb1,hb2,hb3,hb4,hb5,oW,seq1,swC,Tryz.f4,ah,af,aH,an,ao,aG,ag,ai,aj,ak,aC,az,FP.none,partOf,aa,ae,ab,bf,and_assoc,aX,mL,dx,h0,h1,h9,h11,h12,h13,h14,hix,hiy,sI,aI,aU,hb,hsb,hd1,hd2,hov,hov2,l9 a,l9 c,number,FP.free,cB,FP.apart]
theorem Eb {L:Lst}{g:Nat}{f:List PV→Option (List PV)}(hs:base.shared g=false)(ho:bt L g=fun a=>f (aJ a))(run:aq)(dr:Bool)(hp:List Blk)(args args' a rs:List PV)(ids:List Nat)
  (h1:bm (snap hp bh) args=some (args',ids)) (h2:aJ args'=a) (h3:f a=some rs) (h4:rs.all du=true):bU (CC L) run dr hp g args=some (gr rs,hp,⟨ids,[],false,false⟩):=by
 have h5:(CC L).orc g args'=some rs:=by
  show bt L g args'=_
  rw[ho];show f (aJ args')=_;rw[h2,h3]
 exact jv hs h1 h5 h4
theorem Vt (L:Lst)(run:aq)(k:Nat)(fr:List PV)(hp:List Blk)(wr:List Nat)(X:List (List Rat))(p p':PV)(q:Nat)(a b t:ByteArray)(s:Int)(e:Nat)(f1 f2 f3 f4:FP)(c1:bU (CC L) run false hp 13 [qC X,p]=some (.tup [.sc (.string a),iv 0],hp,f1))(c2:bU (CC L) run false hp 13 [qC X,p']=some (.tup [.sc (.string b),iv 0],hp,f2))(c3:bU (CC L) run false hp 19 [qC X,p,iv q]=some (.tup [Ab.bC s,iv e],hp,f3))(c4:bU (CC L) run false hp 19 [qC X,p',iv q]=some (.tup [Ab.bC s,iv e],hp,f4))
  (g1:av L run 23 [.sc (.string a)] (.sc (.bool true))) (g2:av L run 23 [.sc (.string b)] (.sc (.bool true))) (g3:av L run 24 [.sc (.string a),.sc (.string b)] (.sc (.string t))) (ht:eY .eql t { data:=#[48] } = some (.bool true)) (h0:fr.length=150) (h1:nth fr 0=qC X) (h9:nth fr 9=p) (h11:nth fr 11=iv q) (h14:nth fr 14=p') :
  ∃ st,af (CC L) run k (ah 9 swC) ⟨fr,hp,wr⟩=some (.ret,st)∧aZ TT st.fr st.hp Tryz.f4.results.toList=some [.sc (.bool true)]:=by
 unfold av at g1 g2 g3
 simp only[iv,Ab.bC,Int.cast_ofNat_Int] at c1 c2 c3 c4 h11
 simp[swC,Tryz.f4,ah,af,aH,an,ao,aG,ag,ai,aP,aj,ak,aC,az,FP.none,bc,ar,bd,au,aa,ae,ab,h0,h1,h9,h11,h14,c1,c2,c3,c4,g1,g2,g3,ht,aZ]
abbrev SwA:=List (List ByteArray) × List Nat × Nat × Nat
def eSw (p:SwA):List PV:=[cE p.1,.agg (p.2.1.map u8v),u8v p.2.2.1,u8v p.2.2.2]
def adT (p:SwA):Prop:=(∀ q ∈ p.1,Bl q.length)∧p.2.1.length=5∧(∀ x ∈ p.2.1,x<256)∧p.2.2.1<256∧p.2.2.2<256
def swp (l:List Nat)(x y:Nat):List Nat:=(l.set x (at0 l y)).set y (at0 l x)
def Ux:Prop:=∀ (c:List (List ByteArray)) (l:List Nat) (x y q:Nat),qe c→chk c=0→c≠[]→(∀ i ∈ l,i<c.length)→l.length=hdL c+1→x<l.length→y<l.length→x≠y→q<c.length →
 (ef c (l.map Int.ofNat)).2=0∧(ef c ((swp l x y).map Int.ofNat)).2=0∧Rb 1000 (vv (ef c (l.map Int.ofNat)).1)∧vv (ef c ((swp l x y).map Int.ofNat)).1 = - vv (ef c (l.map Int.ofNat)).1∧oY c ((swp l x y).map Int.ofNat) q=oY c (l.map Int.ofNat) q
noncomputable def LW:Lst:=[(11,GX),(22,Hm),(12,I5 []),(13,Q1),(19,vC),(23,IG),(24,uN)]
theorem aeJ:dK base.P LW:=⟨MK,yh,Zl,Ma,AG,x9,yn,trivial⟩
theorem ZF {hp:List Blk}{b:Nat}{l:List Nat}{p:PV}(X:List (List Rat))(h:gE 1 e1n b hp l p):∃ q ids,bm (Ab.snap hp bh) [qC X,p]=some ([qC X,q],ids)∧aJ [qC X,q]=[qC X,aN l]∧∀ z:PV,(Ab.snap hp 12 z=some (z,[])→bm (Ab.snap hp bh) [qC X,p,z]=some ([qC X,q,z],ids)):=by
 obtain⟨q,ids,h1,-,h3,-⟩:=h.snap Jw
 have hX:Ab.snap hp 12 (qC X)=some (qC X,[]):=rfl
 refine⟨q,ids,?_,?_,fun z hz => ?_⟩
 ·show bm (Ab.snap hp 12) _=_
  simp only[bm,hX,h1 10,List.append_nil,List.nil_append]
 ·simp only[aJ,h3,YJ,qC,mM]
 ·show bm (Ab.snap hp 12) _=_
  simp only[bm,hX,h1 10,hz,List.append_nil,List.nil_append]
theorem M5 {x:Rat}(h:Rb 1000 x):rk x 0=[qt x,iv 0]:=by unfold rk;rw[if_pos rfl,ji h];rfl
theorem zG {c:List (List ByteArray)}{X:List (List Rat)}(hc:cE c=qC X)(hF:qe c){l:List Nat}(h9:l.length≤1000){b:Nat}{hp:List Blk}{p:PV}(hO:gE 1 e1n b hp l p)(h0:(ef c (l.map Int.ofNat)).2=0)(hb:Rb 1000 (vv (ef c (l.map Int.ofNat)).1))(run:aq)(dr:Bool):∃ fp,bU (CC LW) run dr hp 13 [qC X,p]=some (.tup [qt (vv (ef c (l.map Int.ofNat)).1),iv 0],hp,fp):=by
 obtain⟨q,ids,h1,h2,-⟩:=ZF X hO
 have h3:Q1 [qC X,aN l]=some [qt (vv (ef c (l.map Int.ofNat)).1),iv 0]:=by
  have:=mK (e:=eCA) (ok:=W0) (f:=fun p=>rk (vv (ef p.1 p.2).1) (ef p.1 p.2).2) (fun x y _ _ h=>by rw[AV h]) (x:=(c,l.map Int.ofNat)) ⟨hF,by simpa using h9⟩
  dsimp only at this
  rw[h0,M5 hb] at this
  rw[← hc]
  exact this
 exact⟨_,Eb (L:=LW) VN rfl run dr hp _ _ _ _ _ h1 h2 h3 rfl⟩
theorem zF {c:List (List ByteArray)}{X:List (List Rat)}(hc:cE c=qC X)(hF:qe c){l:List Nat}(h9:l.length≤1000){b:Nat}{hp:List Blk}{p:PV}(hO:gE 1 e1n b hp l p)(z:Nat)(run:aq)(dr:Bool):∃ fp,bU (CC LW) run dr hp 19 [qC X,p,iv z]=some (.tup [Ab.bC (oY c (l.map Int.ofNat) z).1,iv (oY c (l.map Int.ofNat) z).2],hp,fp):=by
 obtain⟨q,ids,h1,h2,h3⟩:=ZF X hO
 have h4:vC [qC X,aN l,iv z]=some [Ab.bC (oY c (l.map Int.ofNat) z).1,iv (oY c (l.map Int.ofNat) z).2]:=by
  have:=mK (e:=eCL) (ok:=fun p=>qe p.1∧p.2.1.length≤1000) (f:=fun p=>[Ab.bC (oY p.1 p.2.1 p.2.2).1,iv (oY p.1 p.2.1 p.2.2).2]) (fun x y _ _ h=>by rw[Jx h]) (x:=(c,l.map Int.ofNat,(z:Int))) ⟨hF,by simpa using h9⟩
  rw[← hc]
  exact this
 have h5:aJ [qC X,q,iv z]=[qC X,aN l,iv z]:=by
  simp only[aJ] at h2 ⊢
  simp only[List.cons.injEq,and_true] at h2
  rw[h2.1,h2.2];rfl
 exact⟨_,Eb (L:=LW) Fi rfl run dr hp _ _ _ _ _ (h3 (iv z) rfl) h5 h4 rfl⟩
theorem tp (l:List Nat)(x y:Nat):(swp l x y).length=l.length:=by unfold swp;rw[List.length_set,List.length_set]
theorem Vr {l:List Nat}{x y m:Nat}(hx:x<l.length)(hy:y<l.length)(h:∀ i ∈ l,i<m):∀ i ∈ swp l x y,i<m:=by
 intro i hi
 unfold swp at hi
 rcases List.mem_or_eq_of_mem_set hi with hi | hi
 ·rcases List.mem_or_eq_of_mem_set hi with hi | hi
  ·exact h i hi
  ·rw[hi,cV hy];exact h _ (List.getElem_mem _)
 ·rw[hi,cV hx];exact h _ (List.getElem_mem _)
noncomputable def Og:List PV→Option (List PV):=ctr eSw adT fun _=>[.sc (.bool true)]
theorem ET (hM:Ux):Ab.Spec base.P 4 Og:=Ab.Spec.bL (C:=CC LW) (cU aeJ) fun args rs h=>by
 obtain⟨⟨c,l,a,b⟩,⟨hB,hl5,hl9,ha,hb⟩,rfl,rfl⟩:=dj h
 dsimp only at hB hl5 hl9 ha hb
 show ∃ k rs1 hp1 wr rs2 ids,runK (CC LW) k 4 [cE c,.agg (l.map u8v),u8v a,u8v b] []=_∧_∧WkL rs2 [.sc (.bool true)]
 have g1:=adj (L:=LW) rfl (runK (CC LW) 10) c hB
 have g3:=Zy (L:=LW) rfl (runK (CC LW) 10)
 by_cases hearly:nN c=true∨(nN c=false∧(chk c≠0∨c.length=0))
 ·have hh:nN c=true∨chk c≠0∨c.length=0:=by
   rcases hearly with h | ⟨-,h | h⟩
   ·exact .inl h
   ·exact .inr (.inl h)
   ·exact .inr (.inr h)
  obtain⟨st,x1,x2⟩:=Oj LW (runK (CC LW) 10) 10 c (l.map u8v) (u8v a) (u8v b) (nN c) (chk c) hh g1 (fun hf=>UK rfl _ c (Dj hf).fit) g3
  exact⟨11,_,_,_,_,_,aQ n6 rfl x1 x2,rfl,Wk.refl rfl,trivial⟩
 ·have hf:nN c=false:=by
   cases e:nN c with
   | true=>exact absurd (.inl e) hearly
   | false=>rfl
  have hck:chk c=0:=Classical.byContradiction fun e=>hearly (.inr ⟨hf,.inl e⟩)
  have hc0:c.length≠0:=fun e=>hearly (.inr ⟨hf,.inr e⟩)
  have hcne:c≠[]:=fun e=>hc0 (by rw[e];rfl)
  have hF:=Dj hf
  obtain⟨q1,q2,q3,q4,q5⟩:=rm hck hF
  have q3':=q3 hcne
  have g2:=UK (L:=LW) rfl (runK (CC LW) 10) c hF.fit
  rw[hf] at g1
  rw[hck] at g2
  obtain⟨fr,wr,a1,a2,a3,a4,a5,a6,a7⟩:=aax LW (runK (CC LW) 10) 10 c (l.map u8v) (u8v a) (u8v b) hc0 g1 g2 g3
  rw[q1] at a3
  generalize hX:toX c=X at *
  have hX0:0<X.length:=by omega
  have hX9:X.length<1000:=by omega
  have hXm:X[0].length=hdL c:=(q2 _ (List.getElem_mem hX0)).1
  obtain⟨fr1,b1,b2,b3⟩:=adw LW (runK (CC LW) 10) 10 fr [⟨.live,l.map u8v⟩] wr X _ _ _ a2 a3 a4 a5 a6 a7
  obtain⟨fr2,hp2,wr2,c1,c2,c3,c4⟩:=Ik LW (runK (CC LW) 10) 10 X _ _ l hX0 hX9 (by omega) hl5 hl9 (X[0].length+1) 0 fr1 [⟨.live,l.map u8v⟩] wr [] (by omega) rfl rfl (by rw[b3];exact gE.nil (by simp)) b2
  have hL:af (CC LW) (runK (CC LW) 10) 10 (.seq Vy (.block 0 (.loop swB))) ⟨fr,[⟨.live,l.map u8v⟩],wr⟩=some (.normal,⟨fr2,hp2,wr2⟩):=by
   rw[aw b1];exact bE (bQ c1 (by omega))
  generalize hat:(l.take (X[0].length+1)).map (· % X.length)=at' at *
  have hatl:at'.length=hdL c+1:=by rw[← hat,List.length_map,List.length_take];omega
  have hatm:∀ i ∈ at',i<c.length:=by
   intro i hi
   rw[← hat] at hi
   obtain⟨z,-,rfl⟩:=List.mem_map.1 hi
   rw[← q5]
   exact Nat.mod_lt _ hX0
  have h4:4<l.length:=by omega
  obtain⟨q,hq⟩:∃ q,q=(l[4]'h4) % X.length:=⟨_,rfl⟩
  obtain⟨x,hx⟩:∃ x,x=a % at'.length:=⟨_,rfl⟩
  obtain⟨y,hy⟩:∃ y,y=b % at'.length:=⟨_,rfl⟩
  have hqm:q<X.length:=by rw[hq];exact Nat.mod_lt _ hX0
  have hxm:x<at'.length:=by rw[hx];exact Nat.mod_lt _ (by omega)
  have hym:y<at'.length:=by rw[hy];exact Nat.mod_lt _ (by omega)
  obtain⟨fr3,d1,d2,d3,d4,d5,d6,d7⟩:=aaw LW (runK (CC LW) 10) 10 fr2 hp2 wr2 X l a b at'.length X.length q x y _ hl5 hl9 ha hb rfl hX0 hX9 (by omega) (by omega) hq hx hy c4 rfl c3.len c2
  have hsp:ah 2 (ah 4 swC)=ah 6 swC:=rfl
  have fin:∀ {st:St},af (CC LW) (runK (CC LW) 10) 10 (ah 6 swC) ⟨fr3,hp2,wr2⟩=some (.ret,st)→aZ TT st.fr st.hp Tryz.f4.results.toList=some [.sc (.bool true)]→∃ k rs1 hp1 wr rs2 ids,runK (CC LW) k 4 [cE c,.agg (l.map u8v),u8v a,u8v b] []=some (rs1,hp1,wr)∧bm (snap hp1 bh) rs1=some (rs2,ids)∧WkL rs2 [.sc (.bool true)]:=by
   intro st x1 x2
   rw[← hsp,← aO 2 d1,← aw hL,← aav,← aO 3 a1] at x1
   exact⟨11,_,_,_,_,_,aQ n6 rfl x1 x2,rfl,Wk.refl rfl,trivial⟩
  by_cases hxy:x=y
  ·rw[← hxy] at d7
   obtain⟨st,x1,x2⟩:=Vv LW (runK (CC LW) 10) 10 fr3 hp2 wr2 x d2 d6 d7
   exact fin (by rw[Oh];exact cg x1) x2
  ·obtain⟨m1,m2,m3,m4,m5⟩:=hM c at' x y q hF hck hcne hatm hatl hxm hym hxy (by omega)
   obtain⟨fr4,e1,e2,e3,e4,e5,e6,e7⟩:=Vw LW (runK (CC LW) 10) 10 fr3 hp2 wr2 X _ q x y hxy d2 d3 d4 d5 d6 d7
   obtain⟨ids,hrd⟩:=c3.rd Jw.toEl
   obtain⟨fr5,wr5,f1,f2,f3,f4,f5,f6,f7,f8⟩:=Vx LW (runK (CC LW) 10) 10 fr4 hp2 wr2 X _ q x y at'.length (at'.flatMap e1n) ids (by omega) (by omega) (Jw.toEl.Mg _) hrd e2 e3 e4 e5 e6 e7
   have hiv:at'.flatMap e1n=at'.map iv:=by
    clear hat hatl hatm hx hy hxm hym d1 hrd f1 f8 c3 m1 m2 m3 m4 m5
    induction at' with
    | nil=>rfl
    | cons z r ih=>rw[List.flatMap_cons,List.map_cons,ih];rfl
   rw[hiv] at f1
   obtain⟨fr6,wr6,i1,i2,i3,i4,i5,i6⟩:=Vu LW (runK (CC LW) 10) 10 fr5 (aM hp2 (at'.map iv)) wr5 X _ at' hp2.length q x y at'.length rfl hxm hym (al1 hp2 _) f2 f3 f4 f5 f6 f7 f8
   have hls:(bP (bP (aM hp2 (at'.map iv)) hp2.length ⟨.live,(at'.set x (at0 at' y)).map iv⟩) hp2.length ⟨.live,((at'.set x (at0 at' y)).set y (at0 at' x)).map iv⟩).length=hp2.length+1:=by rw[bz,bz];simp[aM]
   have hse:aV (bP (bP (aM hp2 (at'.map iv)) hp2.length ⟨.live,(at'.set x (at0 at' y)).map iv⟩) hp2.length ⟨.live,((at'.set x (at0 at' y)).set y (at0 at' x)).map iv⟩) hp2.length=some ⟨.live,(swp at' x y).map iv⟩:=ob (al2 hp2 _ _)
   have hsn:∀ t,t<hp2.length→aV (bP (bP (aM hp2 (at'.map iv)) hp2.length ⟨.live,(at'.set x (at0 at' y)).map iv⟩) hp2.length ⟨.live,((at'.set x (at0 at' y)).set y (at0 at' x)).map iv⟩) t=aV hp2 t:=fun t ht=>by
    rw[l8 (al2 hp2 _ _) (by omega),al3 hp2 _ _ t ht]
   generalize bP (bP (aM hp2 (at'.map iv)) hp2.length ⟨.live,(at'.set x (at0 at' y)).map iv⟩) hp2.length ⟨.live,((at'.set x (at0 at' y)).set y (at0 at' x)).map iv⟩=hp6 at *
   have hO1:gE 1 e1n 1 hp6 at' (nth fr2 9):=by
    obtain⟨u1,u2⟩:=c3
    refine⟨by omega,?_⟩
    rcases u2 with h | ⟨id,m,xx,v1,v2,v3,v4,v5⟩
    ·exact .inl h
    ·exact .inr ⟨id,m,xx,v1,by omega,v3,v4,by rw[hsn id v2];exact v5⟩
   have hiv2:∀ t:List Nat,t.flatMap e1n=t.map iv:=by
    intro t
    induction t with
    | nil=>rfl
    | cons z r ih=>rw[List.flatMap_cons,List.map_cons,ih];rfl
   have hO2:gE 1 e1n 0 hp6 (swp at' x y) (.own hp2.length 1 0 at'.length false) :=
    ⟨Nat.zero_le _,.inr ⟨hp2.length,[],false,Nat.zero_le _,by omega,by rw[tp],nofun,by rw[List.append_nil,hiv2];exact hse⟩⟩
   obtain⟨fp1,k1⟩:=zG q1 hF (by omega) hO1 m1 m3 (runK (CC LW) 10) false
   have m3':Rb 1000 (vv (ef c ((swp at' x y).map Int.ofNat)).1):=by rw[m4];exact m3.neg
   obtain⟨fp2,k2⟩:=zG q1 hF (by rw[tp];omega) hO2 m2 m3' (runK (CC LW) 10) false
   obtain⟨fp3,k3⟩:=zF q1 hF (by omega) hO1 q (runK (CC LW) 10) false
   obtain⟨fp4,k4⟩:=zF q1 hF (by rw[tp];omega) hO2 q (runK (CC LW) 10) false
   rw[m5] at k4
   rw[m4] at k2
   generalize vv (ef c (at'.map Int.ofNat)).1=D at *
   have hval:∀ z:Rat,Rb 1000 z→av LW (runK (CC LW) 10) 23 [.sc (.string (qb z))] (.sc (.bool true)):=fun z hz=>by
    have:=UJ (L:=LW) rfl (runK (CC LW) 10) (qb z) (Nat.le_trans (QR hz) (by omega))
    rw[ji ⟨z,rfl,hz⟩] at this
    exact this
   have gpl:=afk (L:=LW) rfl (runK (CC LW) 10) m3 m3.neg (by omega)
   have hz0:D + -D=0:=Rat.add_neg_cancel D
   rw[hz0] at gpl
   obtain⟨st,x1,x2⟩:=Vt LW (runK (CC LW) 10) 10 fr6 hp6 wr6 X (nth fr2 9) (.own hp2.length 1 0 at'.length false) q (qb D) (qb (-D)) (qb 0) _ _ fp1 fp2 fp3 fp4 k1 k2 k3 k4 (hval D m3) (hval (-D) m3.neg) gpl (aci 0 0) i2 i3 i4 i5 i6
   refine fin (st:=st) ?_ x2
   rw[Oh,aw e1,aau,aw f1,aat,aw i1]
   exact x1
def sgS (S:List Bool):Nat→Bool
 | 0=>false
 | i+1=>if S.getD i false=true then sgS S i else !sgS S i
def exW (f:Nat→Rat)(r:List Rat)(S:List Bool):Nat→Rat
 | 0=>0
 | i+1=>exW f r S i+(if S.getD i false=true then 0 else bif sgS S i then -(r.getD i 0*f i) else r.getD i 0*f i)
def sP (n:Nat):List (List Rat)→List Bool→Rat
 | [],_=>1
 | r::rs,S=>exW (fun k=>sP n rs (S.set k true)) r S n
theorem Js (f:Nat→Rat)(r:List Rat)(S:List Bool):∀ i,(exS f r S i).2=sgS S i∧vv (exS f r S i).1=exW f r S i
 | 0=>⟨rfl,rfl⟩
 | i+1=>by
  obtain⟨h1,h2⟩:=Js f r S i
  unfold exS sgS exW
  by_cases hs:S.getD i false=true
  ·rw[if_pos hs,if_pos hs,if_pos hs]
   exact⟨h1,by rw[h2,Rat.add_zero]⟩
  ·rw[if_neg hs,if_neg hs,if_neg hs]
   by_cases h0:r.getD i 0=0
   ·rw[if_pos h0,h0,Rat.zero_mul]
    refine⟨by rw[h1],?_⟩
    show vv (exS f r S i).1=_
    rw[h2]
    cases sgS S i <;> simp[Rat.add_zero]
   ·rw[if_neg h0]
    refine⟨by rw[h1],?_⟩
    show vv (exS f r S i).1+_=_
    rw[h1,h2]
theorem Jr (n:Nat):∀ (rows:List (List Rat)) (S:List Bool),vv (exU n rows S)=sP n rows S
 | [],S=>rfl
 | r::rs,S=>by
  unfold exU sP
  rw[(Js _ r S n).2]
  congr 1
  funext k
  exact Jr n rs _
def ic (M:List (List Rat)):Rat:=sP M.length M (List.replicate M.length false)
theorem mI (M:List (List Rat)):vv (lU M)=ic M:=Jr _ _ _
theorem aeA (r:List Rat):ic [r]=r.getD 0 0:=by
 simp[ic,sP,exW,sgS]
 try grind
theorem Z2 (r s:List Rat):ic [r,s]=r.getD 0 0*s.getD 1 0 - r.getD 1 0*s.getD 0 0:=by
 simp[ic,sP,exW,sgS]
 try grind
theorem Ty (r s t:List Rat):ic [r,s,t]=r.getD 0 0*(s.getD 1 0*t.getD 2 0 - s.getD 2 0*t.getD 1 0) - r.getD 1 0*(s.getD 0 0*t.getD 2 0 - s.getD 2 0*t.getD 0 0)+r.getD 2 0*(s.getD 0 0*t.getD 1 0 - s.getD 1 0*t.getD 0 0):=by
 simp[ic,sP,exW,sgS]
 try grind
theorem aez (r s t u:List Rat):ic [r,s,t,u]=r.getD 0 0*(s.getD 1 0*(t.getD 2 0*u.getD 3 0 - t.getD 3 0*u.getD 2 0) - s.getD 2 0*(t.getD 1 0*u.getD 3 0 - t.getD 3 0*u.getD 1 0)+s.getD 3 0*(t.getD 1 0*u.getD 2 0 - t.getD 2 0*u.getD 1 0))
  - r.getD 1 0*(s.getD 0 0*(t.getD 2 0*u.getD 3 0 - t.getD 3 0*u.getD 2 0) - s.getD 2 0*(t.getD 0 0*u.getD 3 0 - t.getD 3 0*u.getD 0 0)+s.getD 3 0*(t.getD 0 0*u.getD 2 0 - t.getD 2 0*u.getD 0 0))
  + r.getD 2 0*(s.getD 0 0*(t.getD 1 0*u.getD 3 0 - t.getD 3 0*u.getD 1 0) - s.getD 1 0*(t.getD 0 0*u.getD 3 0 - t.getD 3 0*u.getD 0 0)+s.getD 3 0*(t.getD 0 0*u.getD 1 0 - t.getD 1 0*u.getD 0 0))
  - r.getD 3 0*(s.getD 0 0*(t.getD 1 0*u.getD 2 0 - t.getD 2 0*u.getD 1 0) - s.getD 1 0*(t.getD 0 0*u.getD 2 0 - t.getD 2 0*u.getD 0 0)+s.getD 2 0*(t.getD 0 0*u.getD 1 0 - t.getD 1 0*u.getD 0 0)):=by
 simp[ic,sP,exW,sgS]
 try grind
theorem we {X:List Rat}{i:Nat}(h:i<X.length):X.getD i 0=X[i]:=by rw[List.getD_eq_getElem?_getD,List.getElem?_eq_getElem h];rfl
theorem cH {X Y:List Rat}(h:X.length=Y.length)(i:Nat):(eo X Y).getD i 0=X.getD i 0 - Y.getD i 0:=by
 by_cases hi:i<X.length
 ·rw[we (X:=eo X Y) (by rw[oN h];exact hi),we (X:=X) hi,we (X:=Y) (by omega)]
  unfold eo
  rw[List.getElem_zipWith]
 ·have e:∀ Z:List Rat,Z.length≤i→Z.getD i 0=0:=fun Z hz=>by rw[List.getD_eq_getElem?_getD,List.getElem?_eq_none hz];rfl
  rw[e X (by omega),e Y (by omega),e _ (by rw[oN h];omega)]
  grind
theorem ad4 {l:List Nat}(h:l.length=2):∃ a b,l=[a,b]:=by
 match l,h with
 | [a,b],_=>exact⟨a,b,rfl⟩
theorem ad3 {l:List Nat}(h:l.length=3):∃ a b c,l=[a,b,c]:=by
 match l,h with
 | [a,b,c],_=>exact⟨a,b,c,rfl⟩
theorem abO {l:List Nat}(h:l.length=4):∃ a b c d,l=[a,b,c,d]:=by
 match l,h with
 | [a,b,c,d],_=>exact⟨a,b,c,d,rfl⟩
theorem lt2 {x:Nat}(h:x<2):x=0∨x=1:=by omega
theorem XO {x:Nat}(h:x<3):x=0∨x=1∨x=2:=by omega
theorem lt4 {x:Nat}(h:x<4):x=0∨x=1∨x=2∨x=3:=by omega
theorem Hj {m:Nat}{X:List (List Rat)}(hX:∀ i,i<X.length→(X.getD i []).length=m){l:List Nat}(hl:∀ i ∈ l,i<X.length)(hm:m=1∨m=2∨m=3)(hn:l.length=m+1){x y:Nat}(hx:x<l.length)(hy:y<l.length)(hxy:x≠y):ic (eh X (swp l x y)) = - ic (eh X l):=by
 rcases hm with rfl | rfl | rfl
 ·obtain⟨a,b,rfl⟩:=ad4 hn
  have ha:=hX a (hl a (by simp))
  have hb:=hX b (hl b (by simp))
  generalize hA:X.getD a []=A at *
  generalize hB:X.getD b []=B at *
  have key:∀ l',l'=[b,a]→ic (eh X l') = - ic (eh X [a,b]):=by
   rintro _ rfl
   simp only[eh,List.tail_cons,List.headD_cons,List.map_cons,List.map_nil,hA,hB,aeA]
   rw[cH (by omega),cH (by omega)]
   grind
  rcases lt2 hx with rfl | rfl <;> rcases lt2 hy with rfl | rfl <;> first | exact absurd rfl hxy | exact key _ rfl
 ·obtain⟨a,b,c,rfl⟩:=ad3 hn
  have ha:=hX a (hl a (by simp))
  have hb:=hX b (hl b (by simp))
  have hc:=hX c (hl c (by simp))
  generalize hA:X.getD a []=A at *
  generalize hB:X.getD b []=B at *
  generalize hC:X.getD c []=C at *
  have key:∀ l',(l'=[b,a,c]∨l'=[c,b,a]∨l'=[a,c,b])→ic (eh X l') = - ic (eh X [a,b,c]):=by
   rintro _ (rfl | rfl | rfl) <;>
   ·simp only[eh,List.tail_cons,List.headD_cons,List.map_cons,List.map_nil,hA,hB,hC,Z2]
    rw[cH (X:=B) (Y:=A) (by omega),cH (X:=C) (Y:=A) (by omega),cH (X:=B) (Y:=A) (by omega),cH (X:=C) (Y:=A) (by omega)]
    try rw[cH (X:=A) (Y:=B) (by omega),cH (X:=C) (Y:=B) (by omega),cH (X:=A) (Y:=B) (by omega),cH (X:=C) (Y:=B) (by omega)]
    try rw[cH (X:=A) (Y:=C) (by omega),cH (X:=B) (Y:=C) (by omega),cH (X:=A) (Y:=C) (by omega),cH (X:=B) (Y:=C) (by omega)]
    grind
  rcases XO hx with rfl | rfl | rfl <;> rcases XO hy with rfl | rfl | rfl <;> first | exact absurd rfl hxy | exact key _ (.inl rfl) | exact key _ (.inr (.inl rfl)) | exact key _ (.inr (.inr rfl))
 ·obtain⟨a,b,c,d,rfl⟩:=abO hn
  have ha:=hX a (hl a (by simp))
  have hb:=hX b (hl b (by simp))
  have hc:=hX c (hl c (by simp))
  have hd:=hX d (hl d (by simp))
  generalize hA:X.getD a []=A at *
  generalize hB:X.getD b []=B at *
  generalize hC:X.getD c []=C at *
  generalize hD:X.getD d []=D at *
  have e1:=fun i=>cH (X:=B) (Y:=A) (by omega) i
  have e2:=fun i=>cH (X:=C) (Y:=A) (by omega) i
  have e3:=fun i=>cH (X:=D) (Y:=A) (by omega) i
  have e4:=fun i=>cH (X:=A) (Y:=B) (by omega) i
  have e5:=fun i=>cH (X:=C) (Y:=B) (by omega) i
  have e6:=fun i=>cH (X:=D) (Y:=B) (by omega) i
  have e7:=fun i=>cH (X:=A) (Y:=C) (by omega) i
  have e8:=fun i=>cH (X:=B) (Y:=C) (by omega) i
  have e9:=fun i=>cH (X:=D) (Y:=C) (by omega) i
  have f1:=fun i=>cH (X:=A) (Y:=D) (by omega) i
  have f2:=fun i=>cH (X:=B) (Y:=D) (by omega) i
  have f3:=fun i=>cH (X:=C) (Y:=D) (by omega) i
  have key:∀ l',(l'=[b,a,c,d]∨l'=[c,b,a,d]∨l'=[d,b,c,a]∨l'=[a,c,b,d]∨l'=[a,d,c,b]∨l'=[a,b,d,c])→ic (eh X l') = - ic (eh X [a,b,c,d]):=by
   rintro _ (rfl | rfl | rfl | rfl | rfl | rfl) <;>
   ·simp only[eh,List.tail_cons,List.headD_cons,List.map_cons,List.map_nil,hA,hB,hC,hD,Ty,e1,e2,e3,e4,e5,e6,e7,e8,e9,f1,f2,f3]
    generalize A.getD 0 0=a0,A.getD 1 0=a1,A.getD 2 0=a2
    generalize B.getD 0 0=b0,B.getD 1 0=b1,B.getD 2 0=b2
    generalize C.getD 0 0=c0,C.getD 1 0=c1,C.getD 2 0=c2
    generalize D.getD 0 0=d0,D.getD 1 0=d1,D.getD 2 0=d2
    grind
  rcases lt4 hx with rfl | rfl | rfl | rfl <;> rcases lt4 hy with rfl | rfl | rfl | rfl <;> first | exact absurd rfl hxy | exact key _ (.inl rfl) | exact key _ (.inr (.inl rfl)) | exact key _ (.inr (.inr (.inl rfl))) | exact key _ (.inr (.inr (.inr (.inl rfl)))) | exact key _ (.inr (.inr (.inr (.inr (.inl rfl))))) | exact key _ (.inr (.inr (.inr (.inr (.inr rfl)))))
theorem KY {m:Nat}(g:Nat→List Rat){l:List Nat}(hm:m=1∨m=2∨m=3)(hn:l.length=m+1){x y:Nat}(hx:x<l.length)(hy:y<l.length)(hxy:x≠y):ic ((swp l x y).map g) = - ic (l.map g):=by
 rcases hm with rfl | rfl | rfl
 ·obtain⟨a,b,rfl⟩:=ad4 hn
  have key:∀ l',l'=[b,a]→ic (l'.map g) = - ic ([a,b].map g):=by
   rintro _ rfl
   simp only[List.map_cons,List.map_nil,Z2]
   grind
  rcases lt2 hx with rfl | rfl <;> rcases lt2 hy with rfl | rfl <;> first | exact absurd rfl hxy | exact key _ rfl
 ·obtain⟨a,b,c,rfl⟩:=ad3 hn
  have key:∀ l',(l'=[b,a,c]∨l'=[c,b,a]∨l'=[a,c,b])→ic (l'.map g) = - ic ([a,b,c].map g):=by
   rintro _ (rfl | rfl | rfl) <;>
   ·simp only[List.map_cons,List.map_nil,Ty]
    grind
  rcases XO hx with rfl | rfl | rfl <;> rcases XO hy with rfl | rfl | rfl <;> first | exact absurd rfl hxy | exact key _ (.inl rfl) | exact key _ (.inr (.inl rfl)) | exact key _ (.inr (.inr rfl))
 ·obtain⟨a,b,c,d,rfl⟩:=abO hn
  have key:∀ l',(l'=[b,a,c,d]∨l'=[c,b,a,d]∨l'=[d,b,c,a]∨l'=[a,c,b,d]∨l'=[a,d,c,b]∨l'=[a,b,d,c])→ic (l'.map g) = - ic ([a,b,c,d].map g):=by
   rintro _ (rfl | rfl | rfl | rfl | rfl | rfl) <;>
   ·simp only[List.map_cons,List.map_nil,aez]
    generalize g a=A,g b=B,g c=C,g d=D
    generalize A.getD 0 0=a0,A.getD 1 0=a1,A.getD 2 0=a2,A.getD 3 0=a3
    generalize B.getD 0 0=b0,B.getD 1 0=b1,B.getD 2 0=b2,B.getD 3 0=b3
    generalize C.getD 0 0=c0,C.getD 1 0=c1,C.getD 2 0=c2,C.getD 3 0=c3
    generalize D.getD 0 0=d0,D.getD 1 0=d1,D.getD 2 0=d2,D.getD 3 0=d3
    grind
  rcases lt4 hx with rfl | rfl | rfl | rfl <;> rcases lt4 hy with rfl | rfl | rfl | rfl <;> first | exact absurd rfl hxy | exact key _ (.inl rfl) | exact key _ (.inr (.inl rfl)) | exact key _ (.inr (.inr (.inl rfl))) | exact key _ (.inr (.inr (.inr (.inl rfl)))) | exact key _ (.inr (.inr (.inr (.inr (.inl rfl))))) | exact key _ (.inr (.inr (.inr (.inr (.inr rfl)))))
end Go.Proofs.YtjdmodeenbdfpaaGreat
