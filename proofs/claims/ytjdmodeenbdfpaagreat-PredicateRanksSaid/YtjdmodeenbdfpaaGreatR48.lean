/- Ranks by elimination and by minors, part 48 of the proof; each lemma states its own conditions. -/
import Derived.Test.YtjdmodeenbdfpaaGreatR47
import Derived.Test.YtjdmodeenbdfpaaGreatR42
import Derived.Test.YtjdmodeenbdfpaaGreatR43
set_option linter.unusedSimpArgs false
set_option linter.unusedVariables false
namespace Go.Proofs.YtjdmodeenbdfpaaGreat
open Go Go.Ab
theorem uO {kk n:Nat}{P V:List Rat}(hP:P.length=n)(hV:V.length=n):Red kk P V (xn kk P V):=by
 intro i
 unfold xn
 split
 ·rename_i h
  rw[h,Rat.div_def,Rat.zero_mul,Rat.zero_mul,Rat.sub_eq_add_neg,Rat.neg_zero,Rat.add_zero]
 ·generalize V.getD kk 0 / P.getD kk 0=f
  by_cases hi:i<n
  ·have h3:i<(lA f V P).length:=by rw[mF (by omega)];omega
   rw[iC h3,A6 (by omega) (by omega) h3,iC (X:=V) (by omega),iC (X:=P) (by omega)]
  ·rw[iE (by rw[mF (by omega)];omega),iE (X:=V) (by omega),iE (X:=P) (by omega)]
   grind
def tl (N r:Nat)(g:Nat→List Rat):List (List Rat):=(List.range (N - r)).map fun t=>g (r+t)
theorem mZ {N r:Nat}{g:Nat→List Rat}{X:List Rat} : X ∈ tl N r g ↔ ∃ t,r≤t∧t<N∧g t=X:=by
 unfold tl
 rw[List.mem_map]
 constructor
 ·rintro⟨t,ht,rfl⟩
  rw[List.mem_range] at ht
  exact⟨r+t,by omega,by omega,rfl⟩
 ·rintro⟨t,h1,h2,rfl⟩
  exact⟨t - r,by rw[List.mem_range];omega,by rw[show r+(t - r)=t by omega]⟩
def swG (g:Nat→List Rat)(r j t:Nat):List Rat:=if t=r+j then g r else if t=r then g (r+j) else g t
structure RkI (M0:List (List Rat)) (n N kk r:Nat) (bb:Nat) (g:Nat→List Rat):Prop where
 rk:rkM M0=r+rkM (tl N r g)
 le:r≤N
 ln:∀ t,t<N→(g t).length=n∧RbL bb (g t)
 z:∀ t,r≤t→t<N→∀ c,c<kk→(g t).getD c 0=0
theorem RkI.skip {M0:List (List Rat)}{n N kk r bb:Nat}{g:Nat→List Rat}(h:RkI M0 n N kk r bb g)(hz:∀ t,t<N - r→(g (r+t)).getD kk 0=0):RkI M0 n N (kk+1) r (4*bb+1) g where
 rk:=h.rk
 le:=h.le
 ln:=fun t ht=>⟨(h.ln t ht).1,fun x hx=>((h.ln t ht).2 x hx).mono (by omega)⟩
 z:=fun t h1 h2 c hc=>by
  by_cases e:c=kk
  ·subst e
   have:=hz (t - r) (by omega)
   rwa [show r+(t - r)=t by omega] at this
  ·exact h.z t h1 h2 c (by omega)
theorem Ia {g:Nat→List Rat}{r j N t:Nat}(hj:j<N - r)(h1:r<t)(h2:t<N):∃ s,r≤s∧s<N∧s≠r+j∧swG g r j t=g s:=by
 unfold swG
 by_cases e:t=r+j
 ·rw[if_pos e]
  by_cases e0:j=0
  ·omega
  ·exact⟨r,by omega,by omega,by omega,rfl⟩
 ·rw[if_neg e,if_neg (by omega)]
  exact⟨t,by omega,h2,e,rfl⟩
theorem Oe {g:Nat→List Rat}{r j N s:Nat}(hj:j<N - r)(h1:r≤s)(h2:s<N)(hs:s≠r+j):∃ t,r<t∧t<N∧swG g r j t=g s:=by
 unfold swG
 by_cases e:s=r
 ·exact⟨r+j,by omega,by omega,by rw[if_pos rfl,e]⟩
 ·exact⟨s,by omega,h2,by rw[if_neg hs,if_neg e]⟩
theorem RkI.step {M0:List (List Rat)}{n N kk r bb j:Nat}{g:Nat→List Rat}(h:RkI M0 n N kk r bb g)(hn:n≤3)(hkk:kk<n)(hj:j<N - r)(hp:(g (r+j)).getD kk 0≠0):RkI M0 n N (kk+1) (r+1) (4*bb+1) (jK kk (r+1) (N - (r+1)) (g (r+j)) (swG g r j)):=by
 have hP:=h.ln (r+j) (by omega)
 have hsw:∀ t,t<N→∃ s,s<N∧swG g r j t=g s:=by
  intro t ht
  unfold swG
  split
  ·exact⟨r,by omega,rfl⟩
  ·split
   ·exact⟨r+j,by omega,rfl⟩
   ·exact⟨t,ht,rfl⟩
 have hred:∀ t,r+1≤t→t<N→jK kk (r+1) (N - (r+1)) (g (r+j)) (swG g r j) t=xn kk (g (r+j)) (swG g r j t):=by
  intro t h1 h2
  unfold jK
  rw[if_pos ⟨h1,by omega⟩]
 have hE:rX kk (g (r+j)) (tl N r g) (tl N (r+1) (jK kk (r+1) (N - (r+1)) (g (r+j)) (swG g r j))):=by
  refine⟨mZ.2 ⟨r+j,by omega,by omega,rfl⟩,hp,fun R hR => ?_,fun S hS => ?_⟩
  ·obtain⟨t,h1,h2,rfl⟩:=mZ.1 hR
   obtain⟨s,s1,s2,-,s4⟩:=Ia (g:=g) hj (show r<t by omega) h2
   rw[hred t h1 h2,s4]
   exact⟨g s,mZ.2 ⟨s,s1,s2,rfl⟩,uO hP.1 (h.ln s s2).1⟩
  ·obtain⟨s,h1,h2,rfl⟩:=mZ.1 hS
   by_cases e:s=r+j
   ·left;rw[e]
   ·right
    obtain⟨t,t1,t2,t3⟩:=Oe (g:=g) hj h1 h2 e
    refine⟨_,mZ.2 ⟨t,by omega,t2,rfl⟩,?_⟩
    rw[hred t (by omega) t2,t3]
    exact uO hP.1 (h.ln s h2).1
 refine⟨by rw[h.rk,hE.rk (by omega)];omega,by omega,fun t ht => ?_,fun t h1 h2 c hc => ?_⟩
 ·obtain⟨s,s1,s2⟩:=hsw t ht
  have hs:=h.ln s s1
  unfold jK
  split
  ·rw[s2]
   exact⟨Pk hP.1 hs.1,Wu (by omega) (by omega) hp hP.2 hs.2⟩
  ·rw[s2]
   exact⟨hs.1,fun x hx=>(hs.2 x hx).mono (by omega)⟩
 ·obtain⟨s,s1,s2,-,s4⟩:=Ia (g:=g) hj (show r<t by omega) h2
  rw[hred t h1 h2,s4]
  have hd:=uO (kk:=kk) hP.1 (h.ln s s2).1
  by_cases e:c=kk
  ·subst e
   exact hd.zero hp
  ·rw[hd c,h.z s s1 s2 c (by omega),h.z (r+j) (by omega) (by omega) c (by omega)]
   grind
theorem RkI.done {M0:List (List Rat)}{n N r bb:Nat}{g:Nat→List Rat}(h:RkI M0 n N n r bb g):rkM M0=r:=by
 rw[h.rk]
 have : ¬ Q1 (tl N r g):=by
  rintro⟨a,ha,hi⟩
  obtain⟨t,t1,t2,rfl⟩:=mZ.1 ha
  have z:∀ c,(g t).getD c 0=0:=fun c=>by
   by_cases e:c<n
   ·exact h.z t t1 t2 c e
   ·exact iE (by rw[(h.ln t t2).1];omega)
  unfold nz at hi
  rw[z,z,z] at hi
  grind
 rw[qT this];rfl
noncomputable def RY:Code:=seq1 nkI
noncomputable def RX:Code:=seq1 (ah 1 nkI)
noncomputable def CK:Code:=seq1 (ah 2 nkI)
noncomputable def pR:Code:=seq1 (ah 3 nkI)
noncomputable def RW:Code:=seq1 (ah 4 nkI)
noncomputable def RV:Code:=seq1 (ah 5 nkI)
noncomputable def RU:Code:=seq1 (ah 6 nkI)
theorem Gn:nkI = .seq RY (.seq RX (.seq CK (.seq pR (.seq RW (.seq RV (.seq RU (.block 2 (.loop gZ)))))))):=rfl
theorem afF:eK TT 3=some [.sc (.int .i64 0)]:=by kernel_rfl
theorem RJ (L:Lst)(run:ar)(k:Nat)(fr:List PV)(hp:List Blk)(wr:List Nat)(kk:Nat)(h0:fr.length=126)(h37:nth fr 37=iv kk):∃ fr' wr',af (CC L) run k RY ⟨fr,hp,wr⟩=some (.normal,⟨fr',bO (aO hp [.sc (.int .i64 0)]) hp.length ⟨.live,[iv kk]⟩,wr'⟩)∧nth fr' 9 = .ptr hp.length 0:=by
 have hx:=al1 hp [.sc (.int .i64 0)]
 have hx1:=ee [.sc (.int .i64 0)] [iv kk] rfl
 have zI':=afF
 simp only[iv] at h37 hx1 ⊢
 simp[RY,nkI,nkB,nkC,Tryz.f17,ah,seq1,blk,az,af,aJ,ao,aq,aH,ag,ai,aj,an,aF,aC,FP.none,aa,ae,ab,bh,and_assoc,M8,vO,bg,h0,h37,hx,hx1,zI',sI]
theorem RI (L:Lst)(run:ar)(k:Nat)(fr:List PV)(hp:List Blk)(wr:List Nat)(m ms:PV)(r b:Nat)(z:Int)(hs:dt TT hp 80 m (some (iv r)) none none=some ms)(hm:∀ id off,m ≠ .ptr id off)(hc:cg (CC L) run false hp 52 [ms,.clos 53 [.ptr b 0]]=some (.sc (.int .i64 z),hp,⟨[],[],true,true⟩))(h0:fr.length=126)(h7:nth fr 7=m)(h8:nth fr 8=iv r)(h9:nth fr 9 = .ptr b 0) :
  ∃ fr' wr',af (CC L) run k RX ⟨fr,hp,wr⟩=some (.normal,⟨fr',hp,wr'⟩)∧nth fr' 10 = .sc (.int .i64 z):=by
 simp only[iv] at h8 hs
 simp[RX,nkI,nkB,nkC,Tryz.f17,ah,seq1,blk,az,af,aJ,ao,aq,aH,ag,ai,aQ,aj,an,aF,aC,FP.none,aa,ae,ab,bh,and_assoc,h0,h7,h8,h9,hs,hc]
theorem IJ (L:Lst)(run:ar)(k:Nat)(fr:List PV)(hp:List Blk)(wr:List Nat)(h0:fr.length=126)(h10:nth fr 10 = .sc (.int .i64 (-1))):∃ fr',af (CC L) run k CK ⟨fr,hp,wr⟩=some (.exit 1,⟨fr',hp,wr⟩):=by
 simp[CK,nkI,nkB,nkC,Tryz.f17,ah,seq1,blk,az,af,aJ,ao,aq,aH,ag,ai,aj,an,aF,aC,FP.none,bd,au,bj,aw,aa,ab,h0,h10]
theorem Yj (L:Lst)(run:ar)(k:Nat)(fr:List PV)(hp:List Blk)(wr:List Nat)(j:Nat)(h0:fr.length=126)(h10:nth fr 10=iv j):∃ fr',af (CC L) run k CK ⟨fr,hp,wr⟩=some (.normal,⟨fr',hp,wr⟩):=by
 have : ¬ ((j:Int)<0):=by omega
 simp only[iv] at h10
 simp[CK,nkI,nkB,nkC,Tryz.f17,ah,seq1,blk,az,af,aJ,ao,aq,aH,ag,ai,aj,an,aF,aC,FP.none,bd,au,bj,aw,aa,ab,h0,h10,this]
theorem Yy:((Region.before (gJ pR))[17]?.getD 0).testBit 11=true:=by kernel_rfl
theorem Yx:((Region.before (gJ pR))[17]?.getD 0).testBit 15=true:=by kernel_rfl
theorem Yw:((Region.before (gJ pR))[19]?.getD 0).testBit 11=true:=by kernel_rfl
theorem Yv:((Region.before (gJ pR))[19]?.getD 0).testBit 15=true:=by kernel_rfl
theorem Yu:((Region.before (gJ pR))[19]?.getD 0).testBit 17=true:=by kernel_rfl
set_option maxHeartbeats 4000000 in
theorem ab9 (L:Lst)(run:ar)(k:Nat)(fr:List PV)(hp:List Blk)(wr:List Nat)(mid N r j t:Nat)(x:Bool)(ps ps1 ps2:List PV)(v v':PV)(ht:t=r+j)(htN:t<N)(hN:N≤1000)(hm:aV hp mid=some ⟨.live,ps⟩)(hv:(br ps r).head?=some v)(hv':(br ps t).head?=some v')(hc:v.cells?=some [v])(hok:dw v=true)(hc':v'.cells?=some [v'])(hok':dw v'=true)(ho:cj ps r [v']=some ps1)(ho2:cj ps1 t [v]=some ps2)(h0:fr.length=126)(h7:nth fr 7 = .own mid 1 0 N x)(h8:nth fr 8=iv r)(h10:nth fr 10=iv j) :
  ∃ fr' wr',af (CC L) run k pR ⟨fr,hp,wr⟩=some (.normal,⟨fr',bO (bO hp mid ⟨.live,ps1⟩) mid ⟨.live,ps2⟩,wr'⟩):=by
 have hw:=dp .i64 r j t ht (hiI (by omega))
 have hix:=IW mid N t x htN
 have hir:=IW mid N r x (by omega)
 have hsb:aV (bO hp mid ⟨.live,ps1⟩) mid=some ⟨.live,ps1⟩:=jG hm
 have hb1:=Yy
 have hb2:=Yx
 have hb3:=Yw
 have hb4:=Yv
 have hb5:=Yu
 simp[-Nat.testBit_zero,pR,nkI,nkB,nkC,Tryz.f17,ah,seq1,blk,az,gJ] at hb1 hb2 hb3 hb4 hb5
 simp only[iv] at h8 h10
 simp[-Nat.testBit_zero,hb1,hb2,hb3,hb4,hb5,pR,nkI,nkB,nkC,Tryz.f17,ah,seq1,blk,az,af,aJ,ao,aq,aH,ag,ai,aj,an,aF,aC,FP.none,bd,au,bj,partOf,aa,ae,ab,bh,bg,h0,h7,h8,h10,hw,hix,hir,hm,hv,hv',hc,hc',hok,hok',ho,ho2,hsb,UJ,pA,aU,number,FP.free,cF,FP.apart]
theorem ab8 (L:Lst)(run:ar)(k:Nat)(fr:List PV)(hp:List Blk)(wr:List Nat)(mid N r:Nat)(x:Bool)(ps:List PV)(v:PV)(hr:r<N)(hm:aV hp mid=some ⟨.live,ps⟩)(hv:(br ps r).head?=some v)(hok:dw v=true)(h0:fr.length=126)(h7:nth fr 7 = .own mid 1 0 N x)(h8:nth fr 8=iv r) :
  ∃ fr',af (CC L) run k RW ⟨fr,hp,wr⟩=some (.normal,⟨fr',hp,wr⟩)∧nth fr' 11=v:=by
 have hir:=IW mid N r x hr
 simp only[iv] at h8
 simp[RW,nkI,nkB,nkC,Tryz.f17,ah,seq1,blk,az,af,aJ,ao,aq,aH,ag,ai,aj,an,aF,aC,FP.none,partOf,aa,ae,ab,bh,h0,h7,h8,hir,hm,hv,UJ,pA,aU]
theorem ab7 (L:Lst)(run:ar)(k:Nat)(fr:List PV)(hp:List Blk)(wr:List Nat)(r:Nat)(hr:r<1000)(h0:fr.length=126)(h8:nth fr 8=iv r) :
  ∃ fr',af (CC L) run k RV ⟨fr,hp,wr⟩=some (.normal,⟨fr',hp,wr⟩)∧nth fr' 8=iv (r+1):=by
 have hw:=bE r (by omega)
 simp only[iv] at h8
 simp[iv,RV,nkI,nkB,nkC,Tryz.f17,ah,seq1,blk,az,af,aJ,ao,aq,aH,ag,ai,aj,an,aF,aC,FP.none,bd,au,bj,aw,aa,ab,h0,h8,hw]
theorem aar (hp:List Blk)(mid N r:Nat)(x:Bool)(hr:r≤N):dt TT hp 80 (.own mid 1 0 N x) (some (iv r)) none none=some (.own mid 1 r (N - r) x):=by
 simp only[iv,dt,kQ,im,pA,bnd,fk,bm]
 rw[if_pos ⟨hr,Nat.le_refl _⟩]
 simp[gT]
theorem ab6 (L:Lst)(run:ar)(k:Nat)(fr:List PV)(hp:List Blk)(wr:List Nat)(mid N r:Nat)(x:Bool)(hr:r≤N)(h0:fr.length=126)(h7:nth fr 7 = .own mid 1 0 N x)(h8:nth fr 8=iv r) :
  ∃ fr',af (CC L) run k RU ⟨fr,hp,wr⟩=some (.normal,⟨fr',hp,wr⟩)∧nth fr' 73 = .own mid 1 r (N - r) x∧nth fr' 74=iv (N - r)∧nth fr' 75=iv 0:=by
 have hs:=aar hp mid N r x hr
 simp only[iv] at h8 hs
 simp[iv,RU,nkI,nkB,nkC,Tryz.f17,ah,seq1,blk,az,af,aJ,ao,aq,aH,ag,ai,aj,an,aF,aC,FP.none,aw,bM,aa,ae,ab,bh,gw,h0,h7,h8,hs,kQ]
theorem Yp (L:Lst)(hL:NkC L)(kq:Nat)(hp:List Blk)(mid N r kk n bb b:Nat)(x:Bool)(g:Nat→List Rat)(hN:N≤999)(hk:N≤kq)(hr:r≤N)(hkk:kk<n)(hg:∀ t,t<N→(g t).length=n∧RbL bb (g t))(hbb:bb≤100000)(hR:Rws hp mid N g)(hb:aV hp b=some ⟨.live,[iv kk]⟩) :
  ∃ z,cg (CC L) (runK (CC L) (kq+2)) false hp 52 [.own mid 1 r (N - r) x,.clos 53 [.ptr b 0]]=some (.sc (.int .i64 z),hp,⟨[],[],true,true⟩)∧((z = -1∧∀ t,t<N - r→(g (r+t)).getD kk 0=0)∨∃ j:Nat,z=j∧j<N - r∧(g (r+j)).getD kk 0≠0):=by
 obtain⟨ps,q1,q2,q3⟩:=hR
 have hc:∀ i,i<N - r→(br ps (r+i)).head?=some ((ps[r+i]?).getD .any)∧dw ((ps[r+i]?).getD .any)=true∧∀ dr,cg (CC L) (runK (CC L) (kq+1)) dr hp 53 ([(ps[r+i]?).getD .any]++[.ptr b 0])=some (.sc (.bool (!decide ((g (r+i)).getD kk 0=0))),hp,⟨[],[],true,true⟩):=by
  intro i hi
  obtain⟨v,v1,v2⟩:=q3 (r+i) (by omega)
  obtain⟨gl,gb⟩:=hg (r+i) (by omega)
  have hkl:kk<(g (r+i)).length:=by omega
  rw[v1,Option.getD_some]
  refine⟨by rw[cL,List.head?_drop,v1],v2.at.ok,fun dr => ?_⟩
  have:=Pd L kq hp v (g (r+i)) kk b (kV (g (r+i))[kk]) v2.at hkl hb (AU hL.sg _ (p:=.agg (rcs (g (r+i))[kk])) (u:=some (g (r+i))[kk]) (.inl rfl) (gb _ (List.getElem_mem _)) (by omega)) dr
  rw[zS] at this
  rw[iC hkl]
  exact this
 rcases aaY L (kq+1) hp mid r (N - r) x ps 53 [.ptr b 0] _ _ (by omega) (by omega) q1 hc with ⟨h1,h2⟩| ⟨j,h1,h2,h3,h4⟩
 ·refine⟨-1,lH uH h2 rfl false,.inl ⟨rfl,fun t ht => ?_⟩⟩
  have:=h1 t ht
  simpa using this
 ·refine⟨j,lH uH h4 rfl false,.inr ⟨j,rfl,h1,?_⟩⟩
  simpa using h2
theorem Q4 (ps:List PV)(t:Nat)(w:PV)(h:t<ps.length):cj ps t [w]=some (ps.set t w):=by
 have:=jN (e:=id) ps t w h
 simpa using this
theorem Hex.frame {a b:List Blk}{w i:Nat}{x:Blk}(h:Hex a b w)(hi:aV a i=some x)(hw:i≠w):aV b i=some x:=by rw[h.2 i (fI hi) hw,hi]
theorem acg (L:Lst)(hL:NkC L)(kq k:Nat)(fr:List PV)(hp:List Blk)(wr:List Nat)(M0:List (List Rat))(mid N r kk n bb:Nat)(x:Bool)(g:Nat→List Rat)(hN:N≤998)(hk:N≤kq)(hk2:N<k)(hk3:n<k)(hn:n≤3)(hkk:kk<n)(hbb:bb≤100000)(hI:RkI M0 n N kk r bb g)(hR:Rws hp mid N g)(h0:fr.length=126)(h7:nth fr 7 = .own mid 1 0 N x)(h8:nth fr 8=iv r)(h37:nth fr 37=iv kk) :
  ∃ fr' hp' wr' r' g',af (CC L) (runK (CC L) (kq+2)) k (.block 1 nkI) ⟨fr,hp,wr⟩=some (.normal,⟨fr',hp',wr'⟩)∧nth fr' 8=iv r'∧Hex hp hp' mid∧Rws hp' mid N g'∧RkI M0 n N (kk+1) r' (4*bb+1) g':=by
 have hr:=hI.le
 obtain⟨fr1,wr1,a1,a2⟩:=RJ L (runK (CC L) (kq+2)) k fr hp wr kk h0 h37
 have K1:=bT _ a1
 have hml:mid<hp.length:=by
  obtain⟨ps,q1,-⟩:=hR
  exact fI q1
 have G1:=Hgr.aeU hp [.sc (.int .i64 0)] ⟨.live,[iv kk]⟩
 have F1:=al2 hp [.sc (.int .i64 0)] ⟨.live,[iv kk]⟩
 generalize bO (aO hp [.sc (.int .i64 0)]) hp.length ⟨.live,[iv kk]⟩=hp1 at *
 have hR1:=hR.gr G1
 obtain⟨z,hc,hz⟩:=Yp L hL kq hp1 mid N r kk n bb hp.length x g (by omega) hk hr hkk hI.ln hbb hR1 F1
 have e7:nth fr1 7 = .own mid 1 0 N x:=K1.at h7 (by kernel_rfl)
 have e8:nth fr1 8=iv r:=K1.at h8 (by kernel_rfl)
 obtain⟨fr2,wr2,b1,b2⟩:=RI L (runK (CC L) (kq+2)) k fr1 hp1 wr1 (.own mid 1 0 N x) (.own mid 1 r (N - r) x) r hp.length z (aar hp1 mid N r x hr) (fun _ _ e=>by cases e) hc (K1.len h0) e7 e8 a2
 have K2:=bT _ b1
 rcases hz with ⟨rfl,hz⟩| ⟨j,rfl,hj,hne⟩
 ·obtain⟨fr3,c1⟩:=IJ L (runK (CC L) (kq+2)) k fr2 hp1 wr2 (K2.len (K1.len h0)) b2
  have K3:=bT _ c1
  refine⟨fr3,hp1,wr2,r,g,ju ?_,K3.at (K2.at e8 (by kernel_rfl)) (by kernel_rfl),G1.to mid,hR1,hI.skip hz⟩
  rw[Gn,av a1,av b1]
  exact kF c1
 ·obtain⟨ps,q1,q2,q3⟩:=hR1
  obtain⟨fr3,c1⟩:=Yj L (runK (CC L) (kq+2)) k fr2 hp1 wr2 j (K2.len (K1.len h0)) b2
  have K3:=bT _ c1
  obtain⟨v,v1,v2⟩:=q3 r (by omega)
  obtain⟨v',v1',v2'⟩:=q3 (r+j) (by omega)
  have l3:=K3.len (K2.len (K1.len h0))
  have g7:nth fr3 7 = .own mid 1 0 N x:=K3.at (K2.at e7 (by kernel_rfl)) (by kernel_rfl)
  have g8:nth fr3 8=iv r:=K3.at (K2.at e8 (by kernel_rfl)) (by kernel_rfl)
  have g9:nth fr3 9 = .ptr hp.length 0:=K3.at (K2.at a2 (by kernel_rfl)) (by kernel_rfl)
  have g10:nth fr3 10=iv j:=K3.at b2 (by kernel_rfl)
  obtain⟨fr4,wr4,d1⟩:=ab9 L (runK (CC L) (kq+2)) k fr3 hp1 wr2 mid N r j (r+j) x ps (ps.set r v') ((ps.set r v').set (r+j) v) v v' rfl (by omega) (by omega) q1 (by rw[cL,List.head?_drop,v1]) (by rw[cL,List.head?_drop,v1']) v2.at.cells v2.at.ok v2'.at.cells v2'.at.ok (Q4 _ _ _ (by omega)) (Q4 _ _ _ (by rw[List.length_set];omega)) l3 g7 g8 g10
  have K4:=bT _ d1
  have hm1:aV (bO hp1 mid ⟨.live,ps.set r v'⟩) mid=some ⟨.live,ps.set r v'⟩:=jG q1
  have X4:Hex hp1 (bO (bO hp1 mid ⟨.live,ps.set r v'⟩) mid ⟨.live,(ps.set r v').set (r+j) v⟩) mid:=(Hex.set q1).trans (Hex.set hm1)
  have hm4:aV (bO (bO hp1 mid ⟨.live,ps.set r v'⟩) mid ⟨.live,(ps.set r v').set (r+j) v⟩) mid=some ⟨.live,(ps.set r v').set (r+j) v⟩:=jG hm1
  generalize bO (bO hp1 mid ⟨.live,ps.set r v'⟩) mid ⟨.live,(ps.set r v').set (r+j) v⟩=hp4 at *
  have hk4:∀ i,i<hp1.length→i≠mid→aV hp4 i=aV hp1 i:=X4.2
  have hR4:Rws hp4 mid N (swG g r j):=by
   refine⟨_,hm4,by rw[List.length_set,List.length_set];exact q2,fun t ht => ?_⟩
   unfold swG
   by_cases e:t=r+j
   ·rw[if_pos e,e]
    exact⟨v,by rw[List.getElem?_set_self (by rw[List.length_set];omega)],v2.mono hk4⟩
   ·rw[if_neg e,List.getElem?_set_ne (Ne.symm e)]
    by_cases e2:t=r
    ·rw[if_pos e2,e2]
     exact⟨v',by rw[List.getElem?_set_self (by omega)],v2'.mono hk4⟩
    ·rw[if_neg e2,List.getElem?_set_ne (Ne.symm e2)]
     obtain⟨u,u1,u2⟩:=q3 t ht
     exact⟨u,u1,u2.mono hk4⟩
  have hvr:((ps.set r v').set (r+j) v)[r]?=some v':=by
   by_cases e:j=0
   ·subst e
    rw[show r+0=r by omega,List.getElem?_set_self (by rw[List.length_set];omega)]
    rw[show r+0=r by omega,v1] at v1'
    exact v1'
   ·rw[List.getElem?_set_ne (by omega),List.getElem?_set_self (by omega)]
  have l4:=K4.len l3
  obtain⟨fr5,f1,f2⟩:=ab8 L (runK (CC L) (kq+2)) k fr4 hp4 wr4 mid N r x _ v' (by omega) hm4 (by rw[cL,List.head?_drop,hvr]) v2'.at.ok l4 (K4.at g7 (by kernel_rfl)) (K4.at g8 (by kernel_rfl))
  have K5:=bT _ f1
  obtain⟨fr6,i1,i2⟩:=ab7 L (runK (CC L) (kq+2)) k fr5 hp4 wr4 r (by omega) (K5.len l4) (K5.at (K4.at g8 (by kernel_rfl)) (by kernel_rfl))
  have K6:=bT _ i1
  have m7:nth fr6 7 = .own mid 1 0 N x:=K6.at (K5.at (K4.at g7 (by kernel_rfl)) (by kernel_rfl)) (by kernel_rfl)
  have l6:=K6.len (K5.len l4)
  obtain⟨fr7,j1,j2,j3,j4⟩:=ab6 L (runK (CC L) (kq+2)) k fr6 hp4 wr4 mid N (r+1) x (by omega) l6 m7 i2
  have K7:=bT _ j1
  have hP:=hI.ln (r+j) (by omega)
  have hb4:aV hp4 hp.length=some ⟨.live,[iv kk]⟩:=X4.frame F1 (by omega)
  have hpm:v' ≠ .own mid 4 0 n true:=by
   rcases v2' with h | ⟨id,h,h',-⟩
   ·rw[h];intro e;cases e
   ·rw[h'];intro e
    simp only[PV.own.injEq] at e
    exact h e.1
  obtain⟨fr8,hp8,wr8,n1,n2,n3⟩:=Yi L (runK (CC L) (kq+2)) k hL fr7 hp4 wr4 v' (g (r+j)) (swG g r j) hp.length kk mid N (r+1) n bb x x hP.1 hn hk3 (by omega) hkk (v2'.mono hk4).at (by rw[← iC];exact hne) hP.2 hbb (fun t ht=>by
   unfold swG
   split
   ·exact hI.ln r (by omega)
   ·split
    ·exact hP
    ·exact hI.ln t ht) hb4 (by omega) (by omega) (by omega) hR4 hpm (K7.len l6) (K7.at m7 (by kernel_rfl)) (K7.at i2 (by kernel_rfl)) (K7.at (K6.at (K5.at (K4.at g9 (by kernel_rfl)) (by kernel_rfl)) (by kernel_rfl)) (by kernel_rfl)) (K7.at (K6.at f2 (by kernel_rfl)) (by kernel_rfl)) j2 j3 j4
  have K8:=bT _ n1
  refine⟨fr8,hp8,wr8,r+1,_,dW ?_,K8.at (K7.at i2 (by kernel_rfl)) (by kernel_rfl),((G1.to mid).trans X4).trans n2,n3,hI.step hn hkk hj hne⟩
  rw[Gn,av a1,av b1,av c1,av d1,av f1,av i1,av j1]
  exact n1
noncomputable def Yz:Code:=seq1 (seq1 (ah 5 nkC))
noncomputable def RM:Code:=cA (ah 2 nkB)
theorem afQ:ah 5 nkC = .seq (.seq Yz (.block 0 (.loop nkB))) (ah 6 nkC):=rfl
theorem aeT:ah 2 nkB = .seq (.block 1 nkI) RM:=rfl
theorem aeR (L:Lst)(run:ar)(k:Nat)(fr:List PV)(hp:List Blk)(wr:List Nat)(n j:Nat)(hj:j<n)(h0:fr.length=126)(h36:nth fr 36=iv n)(h37:nth fr 37=iv j):aY (CC L) run k 2 nkB ⟨fr,hp,wr⟩=some ⟨fm fr 38 (.sc (.bool true)),hp,wr⟩:=by
 simp only[iv] at h36 h37
 simp[aY,nkB,nkC,Tryz.f17,az,af,aJ,ao,aq,aH,ag,ai,aj,an,aF,aC,FP.none,bd,au,bj,aa,h0,h36,h37,hj]
theorem acf (L:Lst)(run:ar)(k:Nat)(fr:List PV)(hp:List Blk)(wr:List Nat)(n:Nat)(h0:fr.length=126)(h36:nth fr 36=iv n)(h37:nth fr 37=iv n):af (CC L) run k nkB ⟨fr,hp,wr⟩=some (.exit 0,⟨fm fr 38 (.sc (.bool false)),hp,wr⟩):=by
 simp only[iv] at h36 h37
 simp[nkB,nkC,Tryz.f17,az,af,aJ,ao,aq,aH,ag,ai,aj,an,aF,aC,FP.none,bd,au,bj,aa,h0,h36,h37]
theorem acb (L:Lst)(run:ar)(k:Nat)(fr:List PV)(hp:List Blk)(wr:List Nat)(j:Nat)(hj:j<1000)(h0:fr.length=126)(h37:nth fr 37=iv j):∃ fr',af (CC L) run k RM ⟨fr,hp,wr⟩=some (.normal,⟨fr',hp,wr⟩)∧nth fr' 37=iv (j+1):=by
 have hw:=bE j (by omega)
 simp only[iv] at h37
 simp[iv,RM,nkB,nkC,Tryz.f17,ah,cA,az,af,aJ,ao,aq,aH,ag,ai,aj,an,aF,aC,FP.none,bd,au,bj,aw,aa,ab,h0,h37,hw]
theorem CJ (L:Lst)(run:ar)(k:Nat)(m:PV)(n:Nat)(Inv:Nat→Nat→List Blk→Prop)(hn:n≤3)(hk:n<k)(step:∀ kk fr hp wr r,kk<n→Inv kk r hp→fr.length=126→nth fr 7=m→nth fr 8=iv r→nth fr 37=iv kk→∃ fr' hp' wr' r',af (CC L) run k (.block 1 nkI) ⟨fr,hp,wr⟩=some (.normal,⟨fr',hp',wr'⟩)∧nth fr' 8=iv r'∧Inv (kk+1) r' hp')(fr:List PV)(hp:List Blk)(wr:List Nat)(hI:Inv 0 0 hp)(h0:fr.length=126)(h7:nth fr 7=m)(h8:nth fr 8=iv 0)(h36:nth fr 36=iv n)(h37:nth fr 37=iv 0) :
  ∃ fr' hp' wr' r,af (CC L) run k (.block 0 (.loop nkB)) ⟨fr,hp,wr⟩=some (.normal,⟨fr',hp',wr'⟩)∧nth fr' 8=iv r∧Inv n r hp':=by
 obtain⟨st,b1,r,b2,b3⟩:=pX (C:=CC L) (run:=run) (k:=k) (e:=0) (b:=nkB) (n:=n) (st:=⟨fr,hp,wr⟩)
  (Inv:=fun i st=>gD (gL nkB) fr st.fr∧nth st.fr 37=iv i∧∃ r,nth st.fr 8=iv r∧Inv i r st.hp)
  (Q:=fun st=>∃ r,nth st.fr 8=iv r∧Inv n r st.hp) hk
  (fun i st hi ⟨k1,k2,r,k3,k4⟩=>by
   obtain⟨fr1,hp1,wr1⟩:=st
   dsimp only at k1 k2 k3 k4
   have c0:=k1.len h0
   have gg:=aeR L run k fr1 hp1 wr1 n i hi c0 (k1.at h36 (by kernel_rfl)) k2
   have s0:(fm fr1 38 (.sc (.bool true))).length=126:=by rw[ab];exact c0
   have s1:∀ t,t≠38→nth (fm fr1 38 (.sc (.bool true))) t=nth fr1 t:=fun t ht=>ae ht
   obtain⟨fr2,hp2,wr2,r',a1,a2,a3⟩:=step i _ hp1 wr1 r hi k4 s0 ((s1 7 (by omega)).trans (k1.at h7 (by kernel_rfl))) ((s1 8 (by omega)).trans k3) ((s1 37 (by omega)).trans k2)
   have K2:=bT _ a1
   obtain⟨fr3,d1,d2⟩:=acb L run k fr2 hp2 wr2 i (by omega) (K2.len s0) (K2.at ((s1 37 (by omega)).trans k2) (by kernel_rfl))
   have K3:=bT _ d1
   have hall:af (CC L) run k nkB ⟨fr1,hp1,wr1⟩=some (.normal,⟨fr3,hp2,wr2⟩):=by
    rw[aP 2 gg,aeT,av a1];exact d1
   exact⟨_,hall,k1.trans (bT _ hall),d2,r',K3.at a2 (by kernel_rfl),a3⟩)
  (fun st ⟨k1,k2,r,k3,k4⟩=>by
   obtain⟨fr1,hp1,wr1⟩:=st
   dsimp only at k1 k2 k3 k4
   have g:=acf L run k fr1 hp1 wr1 n (k1.len h0) (k1.at h36 (by kernel_rfl)) k2
   exact⟨_,g,r,by dsimp only;rw[ae (by omega)];exact k3,k4⟩)
  ⟨gD.refl _ _,h37,0,h8,hI⟩
 obtain⟨fr',hp2,wr'⟩:=st
 exact⟨fr',hp2,wr',r,b1,b2,b3⟩
theorem aa0 (L:Lst)(k:Nat)(hp:List Blk)(g:Nat)(caps:List PV)(hk:0<k):runK (CC L) (k+1) 52 [.sc (.slice none 0 0),.clos g caps] hp=some ([.sc (.int .i64 (-1))],hp,[]):=by
 obtain⟨fr,fr1,a1,a2,a3⟩:=N3 L (runK (CC L) k) k (.sc (.slice none 0 0)) (.clos g caps) 0 rfl hp
 obtain⟨fr2,b1,b2⟩:=N4 L (runK (CC L) k) k fr1 hp _ _ 0 a3
 have:af (CC L) (runK (CC L) k) k (.seq JC (.block 0 (.loop vfB))) ⟨fr,hp,[]⟩=some (.normal,⟨fr2,hp,[]⟩):=by
  rw[av a2];exact bH (ca (bD (n:=0) b1) (by omega))
 obtain⟨st,c1,c2,c3,c4⟩:=H3 L (runK (CC L) k) k fr2 hp b2
 have hx:af (CC L) (runK (CC L) k) k vfC ⟨entry 19 [.sc (.slice none 0 0),.clos g caps],hp,[]⟩=some (.ret,st):=by
  rw[aP 1 a1,Ep,av this,c1]
 have:=jb pd rfl hx c4
 rw[c2,c3] at this
 exact this
theorem Ys (L:Lst)(kq k:Nat)(fr:List PV)(hp:List Blk)(wr:List Nat)(kk:Nat)(h0:fr.length=126)(h7:nth fr 7 = .sc (.slice none 0 0))(h8:nth fr 8=iv 0)(h37:nth fr 37=iv kk) :
  ∃ fr' hp' wr',af (CC L) (runK (CC L) (kq+2)) k (.block 1 nkI) ⟨fr,hp,wr⟩=some (.normal,⟨fr',hp',wr'⟩)∧nth fr' 8=iv 0:=by
 obtain⟨fr1,wr1,a1,a2⟩:=RJ L (runK (CC L) (kq+2)) k fr hp wr kk h0 h37
 have K1:=bT _ a1
 generalize bO (aO hp [.sc (.int .i64 0)]) hp.length ⟨.live,[iv kk]⟩=hp1 at *
 have hs:dt TT hp1 80 (.sc (.slice none 0 0)) (some (iv 0)) none none=some (.sc (.slice none 0 0)):=by
  simp only[iv,dt,kQ,im,pA,bnd,fk,bm]
  rfl
 have e8:nth fr1 8=iv 0:=K1.at h8 (by kernel_rfl)
 obtain⟨fr2,wr2,b1,b2⟩:=RI L (runK (CC L) (kq+2)) k fr1 hp1 wr1 _ _ 0 hp.length (-1) hs (fun _ _ e=>by cases e) (lH uH (aa0 L (kq+1) hp1 _ _ (by omega)) rfl false) (K1.len h0) (K1.at h7 (by kernel_rfl)) e8 a2
 have K2:=bT _ b1
 obtain⟨fr3,c1⟩:=IJ L (runK (CC L) (kq+2)) k fr2 hp1 wr2 (K2.len (K1.len h0)) b2
 have K3:=bT _ c1
 refine⟨fr3,hp1,wr2,ju ?_,K3.at (K2.at e8 (by kernel_rfl)) (by kernel_rfl)⟩
 rw[Gn,av a1,av b1]
 exact kF c1
theorem ach (L:Lst)(run:ar)(k:Nat)(c:List (List ByteArray))(l:List Int)(e:Nat)(he:e≠0)(g:aA L run 50 [cE c,aE l,.sc (.int .i64 (-1))] (iv e)) :
  ∃ st,af (CC L) run k nkC ⟨entry 126 [cE c,aE l],[],[]⟩=some (.ret,st)∧aZ TT st.fr st.hp Tryz.f17.results.toList=some [iv 0,iv e]:=by
 obtain⟨e1,e2,e3⟩:=cC 124 (cE c) (aE l)
 generalize entry 126 [cE c,aE l]=fr0 at *
 have hb:((e:Int) != 0)=true:=by simp;omega
 unfold aA at g
 simp only[iv] at g ⊢
 simp[nkC,Tryz.f17,af,aJ,ao,aq,aH,ag,ai,aQ,aj,an,aF,aC,FP.none,bd,au,bj,aw,aa,ae,ab,e1,e2,e3,g,hb,aZ]
theorem Yl (L:Lst)(run:ar)(k:Nat)(c:List (List ByteArray))(g:aA L run 50 [cE c,aE [],.sc (.int .i64 (-1))] (iv 0)) :
  ∃ st,af (CC L) run k nkC ⟨entry 126 [cE c,aE []],[],[]⟩=some (.ret,st)∧aZ TT st.fr st.hp Tryz.f17.results.toList=some [Ab.bJ (-1),iv 0]:=by
 obtain⟨e1,e2,e3⟩:=cC 124 (cE c) (aE [])
 generalize entry 126 [cE c,aE []]=fr0 at *
 have hl:ef (aE [])=some 0:=rfl
 unfold aA at g
 simp only[iv,Int.cast_ofNat_Int] at g ⊢
 simp[Ab.bJ,nkC,Tryz.f17,af,aJ,ao,aq,aH,ag,ai,aQ,aj,an,aF,aC,FP.none,bd,au,bj,aw,bM,aa,ae,ab,bh,e1,e2,e3,g,hl,ox,aZ]
theorem aca (L:Lst)(run:ar)(k:Nat)(c:List (List ByteArray))(l:List Int)(hl0:l≠[])(g:aA L run 50 [cE c,aE l,.sc (.int .i64 (-1))] (iv 0))(p:PV)(hp':List Blk)(fp:FP)(hc:cg (CC L) run false [] 51 [cE c,aE l]=some (p,hp',fp)) :
  ∃ fr' wr',aY (CC L) run k 5 nkC ⟨entry 126 [cE c,aE l],[],[]⟩=some ⟨fr',hp',wr'⟩∧fr'.length=126∧nth fr' 0=cE c∧nth fr' 1=aE l∧nth fr' 7=p∧nth fr' 8=iv 0:=by
 obtain⟨e1,e2,e3⟩:=cC 124 (cE c) (aE l)
 generalize entry 126 [cE c,aE l]=fr0 at *
 have hl:ef (aE l)=some l.length:=by simp[aE,gU,ef]
 have hne:l.length≠0:=by simpa using hl0
 unfold aA at g
 generalize l.length=m at *
 have hz:((m:Int) == 0)=false:=by rw[beq_eq_false_iff_ne];omega
 simp only[iv,Int.cast_ofNat_Int] at g ⊢
 simp[hz,aY,nkC,Tryz.f17,af,aJ,ao,aq,aH,ag,ai,aQ,aj,an,aF,aC,FP.none,bd,au,bj,aw,bM,aa,ae,ab,bh,and_assoc,e1,e2,e3,g,hl,ox,hc]
theorem aeQ (L:Lst)(run:ar)(k:Nat)(fr:List PV)(hp:List Blk)(wr:List Nat)(c:List (List ByteArray))(l:List Int)(j:Nat)(hl0:0<l.length)(hlj:l[0]=(j:Int))(hj:j<c.length)(h0:fr.length=126)(h00:nth fr 0=cE c)(h01:nth fr 1=aE l) :
  ∃ fr',af (CC L) run k Yz ⟨fr,hp,wr⟩=some (.normal,⟨fr',hp,wr⟩)∧nth fr' 36=iv c[j].length∧nth fr' 37=iv 0:=by
 obtain⟨r',y1,y2⟩:=jP uCl c j hj
 obtain⟨r,x1,x2⟩:=IY l 0 hl0
 have hl:=fQ c[j]
 rw[hlj] at x2
 rw[show (((0:Nat):Int))=(0:Int) from rfl] at x1
 simp[iv,Yz,nkC,Tryz.f17,ah,seq1,af,aJ,ao,aq,aH,ag,ai,aj,an,aF,aC,FP.none,aw,bM,partOf,aa,ae,ab,bh,h0,h00,h01,x1,x2,y1,y2,hl,aI,sI,aPt,sPt,uPt,aU]
theorem Yk (L:Lst)(run:ar)(k:Nat)(fr:List PV)(hp:List Blk)(wr:List Nat)(r:Nat)(h0:fr.length=126)(h8:nth fr 8=iv r):∃ st,af (CC L) run k (ah 6 nkC) ⟨fr,hp,wr⟩=some (.ret,st)∧aZ TT st.fr st.hp Tryz.f17.results.toList=some [iv r,iv 0]:=by
 simp[iv,nkC,ah,Tryz.f17,h0,h8,af,aJ,ao,aq,aH,ag,ai,aj,an,aF,aC,FP.none,aw,aa,ae,ab,aZ]
noncomputable def jL (c:List (List ByteArray))(l:List Int):Int × Nat :=
 if kH c l (-1)≠0 then (0,kH c l (-1)) else if l=[] then (-1,0) else ((rkM (dq (toX c) (l.map Int.toNat)):Int),0)
theorem Ui {c:List (List ByteArray)}{l:List Int}(h:kH c l (-1)=0):chk c=0∧∀ z ∈ l,0≤z∧z<c.length:=by
 unfold kH at h
 by_cases h1:chk c=0
 ·rw[if_neg (fun e=>e h1),if_neg (by omega)] at h
  refine⟨h1,fun z hz => ?_⟩
  cases hb:l.any (rS c.length) with
  | true=>rw[hb] at h;cases h
  | false =>
   rw[List.any_eq_false] at hb
   have:=hb z hz
   unfold rS at this
   simp only[Bool.or_eq_true,decide_eq_true_eq] at this
   omega
 ·rw[if_pos h1] at h;exact absurd h h1
def bS:Nat→Nat
 | 0=>123
 | k+1=>4*bS k+1
theorem Tp:∀ D:List (List Rat),D.flatMap eT=D.map (eu true)
 | []=>rfl
 | a::D=>by rw[List.flatMap_cons,Tp D];rfl
theorem adu (D:List (List Rat))(t:Nat)(ht:t<D.length):(D.flatMap eT)[t]?=some (eu true D[t]):=by
 rw[Tp,List.getElem?_map,List.getElem?_eq_getElem ht];rfl
theorem afG (D:List (List Rat)):rkM (tl D.length 0 (fun t=>D.getD t []))=rkM D:=by
 refine Nat.le_antisymm (zU fun a ha => ?_) (zU fun a ha => ?_)
 ·obtain⟨t,-,t2,rfl⟩:=mZ.1 ha
  rw[List.getD_eq_getElem?_getD,List.getElem?_eq_getElem t2]
  exact List.getElem_mem _
 ·obtain⟨t,ht,rfl⟩:=List.mem_iff_getElem.1 ha
  exact mZ.2 ⟨t,by omega,ht,by rw[List.getD_eq_getElem?_getD,List.getElem?_eq_getElem ht];rfl⟩
noncomputable def LRk:Lst:=[(50,IA),(59,rm),(60,yy),(49,iq),(54,Ir),(56,j8),(55,mM)]
theorem ad1:dL base.P LRk:=⟨yA,vA,yx,jH,KG,nV,nT,trivial⟩
theorem aeS:NkC LRk:=⟨rfl,rfl,rfl,rfl⟩
theorem Ym (c:List (List ByteArray))(l:List Int)(hF:xc c)(h9:l.length≤900)(h0:kH c l (-1)=0)(hl:l≠[]):∃ st,af (CC LRk) (runK (CC LRk) (l.length+12)) (l.length+12) nkC ⟨entry 126 [cE c,aE l],[],[]⟩=some (.ret,st)∧aZ TT st.fr st.hp Tryz.f17.results.toList=some [iv (rkM (dq (toX c) (l.map Int.toNat))),iv 0]:=by
 obtain⟨h1,h3⟩:=Ui h0
 obtain⟨q1,q2,q3,q4,q5⟩:=AJ h1 hF
 have g:=HA (L:=LRk) rfl (runK (CC LRk) (l.length+12)) c l (-1) hF.fit (by omega)
 rw[h0] at g
 have hlen:0<l.length:=List.length_pos_iff.2 hl
 have hz:=h3 _ (List.getElem_mem hlen)
 have hcne:c≠[]:=by intro e;rw[e] at hz;simp at hz;omega
 obtain⟨hm1,hm3⟩:=q3 hcne
 have hin:∀ i ∈ l.map Int.toNat,i<(toX c).length:=fun i hi=>by
  obtain⟨z,hz,rfl⟩:=List.mem_map.1 hi
  have:=h3 z hz
  rw[q5];omega
 obtain⟨p,hp',fp,a1,a2,-⟩:=Hh (L:=LRk) rfl rfl rfl (toX c) (l.map Int.toNat) (by simpa using hl) (by rw[List.length_map];omega) hin (show hdL c≤1000 by omega) (fun P hP=>⟨(q2 P hP).1,fun x hx=>((q2 P hP).2 x hx).mono (by omega)⟩) (l.length+11) (by rw[List.length_map];omega) false []
 rw[← q1,← aaE (fun z hz=>(h3 z hz).1)] at a1
 obtain⟨fr1,wr1,b1,b2,b3,b4,b5,b6⟩:=aca LRk (runK (CC LRk) (l.length+12)) (l.length+12) c l hl g p hp' fp a1
 have hj:(l[0]).toNat<c.length:=by omega
 have hcl:(c[(l[0]).toNat]).length=hdL c:=by
  have:=(q2 _ (List.getElem_mem (l:=toX c) (n:=(l[0]).toNat) (by rw[q5];exact hj))).1
  rw[← this]
  simp[toX]
 obtain⟨fr2,d1,d2,d3⟩:=aeQ LRk (runK (CC LRk) (l.length+12)) (l.length+12) fr1 hp' wr1 c l (l[0]).toNat hlen (by omega) hj b2 b3 b4
 have K2:=bT _ d1
 rw[hcl] at d2
 have e7:nth fr2 7=p:=K2.at b5 (by kernel_rfl)
 have e8:nth fr2 8=iv 0:=K2.at b6 (by kernel_rfl)
 have hdo:=qj q2 hin
 have hdl:(dq (toX c) (l.map Int.toNat)).length=l.length - 1:=by rw[lp,List.length_map]
 generalize dq (toX c) (l.map Int.toNat)=D at *
 have fin:(∃ fr' hp2 wr',af (CC LRk) (runK (CC LRk) (l.length+12)) (l.length+12) (.block 0 (.loop nkB)) ⟨fr2,hp',wr1⟩=some (.normal,⟨fr',hp2,wr'⟩)∧nth fr' 8=iv (rkM D))→∃ st,af (CC LRk) (runK (CC LRk) (l.length+12)) (l.length+12) nkC ⟨entry 126 [cE c,aE l],[],[]⟩=some (.ret,st)∧aZ TT st.fr st.hp Tryz.f17.results.toList=some [iv (rkM D),iv 0]:=by
  rintro⟨fr3,hp2,wr3,u1,u2⟩
  have K3:=bT _ u1
  obtain⟨st,v1,v2⟩:=Yk LRk (runK (CC LRk) (l.length+12)) (l.length+12) fr3 hp2 wr3 (rkM D) (K3.len (K2.len b2)) u2
  refine⟨st,?_,v2⟩
  have hs:af (CC LRk) (runK (CC LRk) (l.length+12)) (l.length+12) (.seq Yz (.block 0 (.loop nkB))) ⟨fr1,hp',wr1⟩=some (.normal,⟨fr3,hp2,wr3⟩):=by rw[av d1];exact u1
  rw[aP 5 b1,afQ,av hs]
  exact v1
 refine fin ?_
 obtain⟨-,a2⟩:=a2
 rcases a2 with ⟨hD,hp0⟩| ⟨id,M,x,-,hidl,hpe,-,hid⟩
 ·subst hD
  rw[hp0] at e7
  obtain⟨fr',hp2,wr',r,u1,u2,u3⟩:=CJ LRk (runK (CC LRk) (l.length+10+2)) (l.length+12) (.sc (.slice none 0 0)) (hdL c) (fun _ r _=>r=0) hm3 (by omega) (fun kk fr hp wr r _ hr w0 w7 w8 w37=>by
   subst hr
   obtain⟨fr',hp2,wr',x1,x2⟩:=Ys LRk (l.length+10) (l.length+12) fr hp wr kk w0 w7 w8 w37
   exact⟨fr',hp2,wr',0,x1,x2,rfl⟩) fr2 hp' wr1 rfl (K2.len b2) e7 e8 d2 d3
  subst u3
  have:rkM ([]:List (List Rat))=0:=qT (by rintro⟨a,ha,-⟩;cases ha)
  rw[this]
  exact⟨fr',hp2,wr',u1,u2⟩
 ·rw[hpe] at e7
  have hR0:Rws hp' id D.length (fun t=>D.getD t []):=by
   refine⟨_,hid,?_,fun t ht=>⟨eu true D[t],?_,.inl ?_⟩⟩
   ·rw[ZB.length,List.length_append];omega
   ·rw[adu _ t (by rw[List.length_append];omega),List.getElem_append_left ht]
   ·show eu true D[t]=eu true (D.getD t [])
    rw[List.getD_eq_getElem?_getD,List.getElem?_eq_getElem ht];rfl
  have hI0:RkI D (hdL c) D.length 0 0 123 (fun t=>D.getD t []):=by
   refine⟨by rw[afG,Nat.zero_add],Nat.zero_le _,fun t ht => ?_,fun _ _ _ c hc=>by omega⟩
   rw[List.getD_eq_getElem?_getD,List.getElem?_eq_getElem ht]
   exact hdo _ (List.getElem_mem ht)
  obtain⟨fr',hp2,wr',r,u1,u2,g',bb,u3,u4,u5⟩:=CJ LRk (runK (CC LRk) (l.length+10+2)) (l.length+12) (.own id 1 0 D.length x) (hdL c) (fun kk r hp=>∃ g bb,bb≤bS kk∧RkI D (hdL c) D.length kk r bb g∧Rws hp id D.length g) hm3 (by omega) (fun kk fr hp wr r hkk ⟨g,bb,hb1,hb2,hb3⟩ w0 w7 w8 w37=>by
   have hbb:bb≤100000:=by
    have:kk=0∨kk=1∨kk=2:=by omega
    rcases this with rfl | rfl | rfl <;> exact Nat.le_trans hb1 (by decide)
   obtain⟨fr',hp2,wr',r',g',x1,x2,x3,x4,x5⟩:=acg LRk aeS (l.length+10) (l.length+12) fr hp wr D id D.length r kk (hdL c) bb x g (by omega) (by omega) (by omega) (by omega) hm3 hkk hbb hb2 hb3 w0 w7 w8 w37
   exact⟨fr',hp2,wr',r',x1,x2,g',4*bb+1,by show _≤4*bS kk+1;omega,x5,x4⟩) fr2 hp' wr1 ⟨_,123,Nat.le_refl _,hI0,hR0⟩ (K2.len b2) e7 e8 d2 d3
  rw[u4.done]
  exact⟨fr',hp2,wr',u1,u2⟩
def aeL (p:CA):Prop:=xc p.1∧p.2.length≤900
noncomputable def Ga:List PV→Option (List PV):=ctr eCA aeL fun p=>[Ab.bJ (jL p.1 p.2).1,iv (jL p.1 p.2).2]
theorem F9:Ab.Spec base.P 17 Ga:=Ab.Spec.bQ (C:=CC LRk) (cV ad1) fun args rs h=>by
 obtain⟨⟨c,l⟩,⟨hF,h9⟩,rfl,rfl⟩:=dz h
 dsimp only at hF h9
 show ∃ k rs1 hp1 wr rs2 ids,runK (CC LRk) k 17 [cE c,aE l] []=_∧_∧WkL rs2 [Ab.bJ (jL c l).1,iv (jL c l).2]
 have g:=HA (L:=LRk) rfl (runK (CC LRk) (l.length+12)) c l (-1) hF.fit (by omega)
 unfold jL
 by_cases h0:kH c l (-1)=0
 ·rw[if_neg (fun e=>e h0)]
  by_cases hl:l=[]
  ·subst hl
   rw[if_pos rfl]
   rw[h0] at g
   obtain⟨st,x1,x2⟩:=Yl LRk (runK (CC LRk) (([]:List Int).length+12)) (([]:List Int).length+12) c g
   exact⟨_,_,_,_,_,_,aX pb rfl x1 x2,rfl,Wk.refl rfl,Wk.refl rfl,trivial⟩
  ·rw[if_neg hl]
   obtain⟨st,x1,x2⟩:=Ym c l hF h9 h0 hl
   exact⟨_,_,_,_,_,_,aX pb rfl x1 x2,rfl,Wk.refl rfl,Wk.refl rfl,trivial⟩
 ·rw[if_pos h0]
  obtain⟨st,x1,x2⟩:=ach LRk (runK (CC LRk) (l.length+12)) (l.length+12) c l _ h0 g
  exact⟨_,_,_,_,_,_,aX pb rfl x1 x2,rfl,Wk.refl rfl,Wk.refl rfl,trivial⟩
end Go.Proofs.YtjdmodeenbdfpaaGreat
