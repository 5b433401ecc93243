/- Ranks by elimination and by minors, part 47 of the proof; each lemma states its own conditions. -/
import Derived.Test.YtjdmodeenbdfpaaGreatT46
import Derived.Test.YtjdmodeenbdfpaaGreatT39
import Derived.Test.YtjdmodeenbdfpaaGreatT40
set_option linter.unusedSimpArgs false
set_option linter.unusedVariables false
noncomputable section
namespace Go.Proofs.YtjdmodeenbdfpaaGreat
open Go Go.Ab List Tryz
attribute [local simp] FzZ aA aC aF aG aH aa ab ae af ag ah ai aj an ao aq aw az bc bd bj blk iv nkB nkC nkI seq1
variable(L:Lst)(run:ar)(k:Nat)(fr:List PV)(hp:List Blk)(wr:List Nat)
theorem dV (M:List (List Rat)):(rkM M=3∧Q3 M)∨(rkM M=2 ∧ ¬ Q3 M∧Q2 M)∨(rkM M=1 ∧ ¬ Q2 M∧Q1 M)∨(rkM M=0 ∧ ¬ Q1 M):=by
 by_cases h3:Q3 M
 ·exact .inl ⟨wK h3,h3⟩
 ·by_cases h2:Q2 M
  ·exact .inr (.inl ⟨Bs h3 h2,h3,h2⟩)
  ·by_cases h1:Q1 M
   ·exact .inr (.inr (.inl ⟨Bt h2 h1,h2,h1⟩))
   ·exact .inr (.inr (.inr ⟨sC h1,h1⟩))
theorem qO {M N:List (List Rat)}(h:∀ a,a ∈ M→a ∈ N):rkM M≤rkM N:=by
 have f1:Q1 M→Q1 N:=fun ⟨a,ha,e⟩=>⟨a,h a ha,e⟩
 have f2:Q2 M→Q2 N:=fun ⟨a,ha,b,hb,e⟩=>⟨a,h a ha,b,h b hb,e⟩
 have f3:Q3 M→Q3 N:=fun ⟨a,ha,b,hb,c,hc,e⟩=>⟨a,h a ha,b,h b hb,c,h c hc,e⟩
 rcases dV M with ⟨e,m⟩| ⟨e,m',m⟩| ⟨e,m',m⟩| ⟨e,m⟩ <;> rw[e]
 ·rw[wK (f3 m)];omega
 ·rcases dV N with ⟨e',n⟩| ⟨e',n',n⟩| ⟨e',n',n⟩| ⟨e',n⟩ <;> rw[e'] <;> first | omega | exact absurd (f2 m) n' | exact absurd (f2 m).q1 n
 ·rcases dV N with ⟨e',n⟩| ⟨e',n',n⟩| ⟨e',n',n⟩| ⟨e',n⟩ <;> rw[e'] <;> first | omega | exact absurd (f1 m) n
 ·omega
theorem AF (a:List Rat) : ¬ rB a a:=by
 unfold rB cr1 cr2 cr3
 intro h
 grind
theorem J8 (M:List (List Rat))(v:List Rat):rkM (M++[v])≤rkM M+1:=by
 have hm:∀ a,a ∈ M++[v]→a ∈ M∨a=v:=fun a ha=>by simpa using ha
 rcases dV M with ⟨e,m⟩| ⟨e,m',m⟩| ⟨e,m',m⟩| ⟨e,m⟩ <;> rw[e]
 ·rcases dV (M++[v]) with ⟨e',n⟩| ⟨e',n',n⟩| ⟨e',n',n⟩| ⟨e',n⟩ <;> omega
 ·rcases dV (M++[v]) with ⟨e',n⟩| ⟨e',n',n⟩| ⟨e',n',n⟩| ⟨e',n⟩ <;> omega
 ·
  have key:∀ a b,a ∈ M→b ∈ M→cr1 a b=0∧cr2 a b=0∧cr3 a b=0:=fun a b ha hb=>jI fun e'=>m' ⟨a,ha,b,hb,e'⟩
  have n3 : ¬ Q3 (M++[v]):=by
   rintro⟨a,ha,b,hb,c,hc,hi⟩
   apply hi
   rcases hm a ha with ha' | rfl
   ·rcases hm b hb with hb' | rfl
    ·obtain⟨e1,e2,e3⟩:=key a b ha' hb'
     unfold cr1 at e1;unfold cr2 at e2;unfold cr3 at e3
     unfold tri cr1 cr2 cr3
     generalize a.getD 0 0=a0,a.getD 1 0=a1,a.getD 2 0=a2,b.getD 0 0=b0,b.getD 1 0=b1,b.getD 2 0=b2,c.getD 0 0=c0,c.getD 1 0=c1,c.getD 2 0=c2 at *
     grind
    ·rcases hm c hc with hc' | rfl
     ·obtain⟨e1,e2,e3⟩:=key a c ha' hc'
      unfold cr1 at e1;unfold cr2 at e2;unfold cr3 at e3
      unfold tri cr1 cr2 cr3
      generalize a.getD 0 0=a0,a.getD 1 0=a1,a.getD 2 0=a2,b.getD 0 0=b0,b.getD 1 0=b1,b.getD 2 0=b2,c.getD 0 0=c0,c.getD 1 0=c1,c.getD 2 0=c2 at *
      grind
     ·unfold tri cr1 cr2 cr3;grind
   ·rcases hm b hb with hb' | rfl
    ·rcases hm c hc with hc' | rfl
     ·obtain⟨e1,e2,e3⟩:=key b c hb' hc'
      unfold tri
      rw[e1,e2,e3];grind
     ·unfold tri cr1 cr2 cr3;grind
    ·unfold tri cr1 cr2 cr3;grind
  rcases dV (M++[v]) with ⟨e',n⟩| ⟨e',n',n⟩| ⟨e',n',n⟩| ⟨e',n⟩
  ·exact absurd n n3
  ·omega
  ·omega
  ·omega
 ·have key:∀ a,a ∈ M→a.getD 0 0=0∧a.getD 1 0=0∧a.getD 2 0=0:=fun a ha=>BO fun e'=>m ⟨a,ha,e'⟩
  have n2 : ¬ Q2 (M++[v]):=by
   rintro⟨a,ha,b,hb,hi⟩
   rcases hm a ha with ha' | rfl
   ·obtain⟨e1,e2,e3⟩:=key a ha'
    unfold rB cr1 cr2 cr3 at hi
    rw[e1,e2,e3] at hi
    grind
   ·rcases hm b hb with hb' | rfl
    ·obtain⟨e1,e2,e3⟩:=key b hb'
     unfold rB cr1 cr2 cr3 at hi
     rw[e1,e2,e3] at hi
     grind
    ·exact AF _ hi
  rcases dV (M++[v]) with ⟨e',n⟩| ⟨e',n',n⟩| ⟨e',n',n⟩| ⟨e',n⟩
  ·exact absurd n.q2 n2
  ·exact absurd n n2
  ·omega
  ·omega
theorem jx {X:List Rat}{i:Nat}(h:X.length≤i):X.getD i 0=0:=by rw[getD_eq_getElem?_getD,getElem?_eq_none h];rfl
theorem aek {M:List (List Rat)}(h:Q1 M):1≤rkM M:=by
 rcases dV M with ⟨e,-⟩| ⟨e,-⟩| ⟨e,-⟩| ⟨e,n⟩
 ·omega
 ·omega
 ·omega
 ·exact absurd h n
theorem aej {M:List (List Rat)}(h:Q2 M):2≤rkM M:=by
 rcases dV M with ⟨e,-⟩| ⟨e,-⟩| ⟨e,n,-⟩| ⟨e,n⟩
 ·omega
 ·omega
 ·exact absurd h n
 ·exact absurd h.q1 n
theorem wL {kk n:Nat}{P V:List Rat}(hP:P.length=n)(hV:V.length=n):Red kk P V (yN kk P V):=by
 intro i
 unfold yN
 split
 ·rename_i h
  rw[h,Rat.div_def,Rat.zero_mul,Rat.zero_mul,Rat.sub_eq_add_neg,Rat.neg_zero,Rat.add_zero]
 ·generalize V.getD kk 0 / P.getD kk 0=f
  by_cases hi:i<n
  ·have h3:i<(mg f V P).length:=by rw[nB (by omega)];omega
   rw[gj h3,CB (by omega) (by omega) h3,gj (X:=V) (by omega),gj (X:=P) (by omega)]
  ·rw[jx (by rw[nB (by omega)];omega),jx (X:=V) (by omega),jx (X:=P) (by omega)]
   grind
def tl (N r:Nat)(g:Nat→List Rat):List (List Rat):=(List.range (N - r)).map fun t=>g (r+t)
theorem oa {N r:Nat}{g:Nat→List Rat}{X:List Rat} : X ∈ tl N r g ↔ ∃ t,r≤t∧t<N∧g t=X:=by
 unfold tl
 rw[mem_map]
 constructor
 ·rintro⟨t,ht,rfl⟩
  rw[mem_range] at ht
  exact⟨r+t,by omega,by omega,rfl⟩
 ·rintro⟨t,h1,h2,rfl⟩
  exact⟨t - r,by rw[mem_range];omega,by rw[show r+(t - r)=t by omega]⟩
def swG (g:Nat→List Rat)(r j t:Nat):List Rat:=if t=r+j then g r else if t=r then g (r+j) else g t
structure RkI (M0:List (List Rat)) (n N kk r:Nat) (bb:Nat) (g:Nat→List Rat):Prop where
 rk:rkM M0=r+rkM (tl N r g)
 le:r≤N
 ln:∀ t,t<N→(g t).length=n∧RbL bb (g t)
 z:∀ t,r≤t→t<N→∀ c,c<kk→(g t).getD c 0=0
theorem RkI.skip {M0:List (List Rat)}{n N kk r bb:Nat}{g:Nat→List Rat}(h:RkI M0 n N kk r bb g)(hz:∀ t,t<N - r→(g (r+t)).getD kk 0=0):RkI M0 n N (kk+1) r (4*bb+1) g where
 rk:=h.rk
 le:=h.le
 ln:=fun t ht=>⟨(h.ln t ht).1,fun x hx=>((h.ln t ht).2 x hx).mono (by omega)⟩
 z:=fun t h1 h2 c hc=>by
  by_cases e:c=kk
  ·subst e
   have:=hz (t - r) (by omega)
   rwa [show r+(t - r)=t by omega] at this
  ·exact h.z t h1 h2 c (by omega)
theorem JT {g:Nat→List Rat}{r j N t:Nat}(hj:j<N - r)(h1:r<t)(h2:t<N):∃ s,r≤s∧s<N∧s≠r+j∧swG g r j t=g s:=by
 unfold swG
 by_cases e:t=r+j
 ·rw[if_pos e]
  by_cases e0:j=0
  ·omega
  ·exact⟨r,by omega,by omega,by omega,rfl⟩
 ·rw[if_neg e,if_neg (by omega)]
  exact⟨t,by omega,h2,e,rfl⟩
theorem QJ {g:Nat→List Rat}{r j N s:Nat}(hj:j<N - r)(h1:r≤s)(h2:s<N)(hs:s≠r+j):∃ t,r<t∧t<N∧swG g r j t=g s:=by
 unfold swG
 by_cases e:s=r
 ·exact⟨r+j,by omega,by omega,by rw[if_pos rfl,e]⟩
 ·exact⟨s,by omega,h2,by rw[if_neg hs,if_neg e]⟩
theorem RkI.step {M0:List (List Rat)}{n N kk r bb j:Nat}{g:Nat→List Rat}(h:RkI M0 n N kk r bb g)(hn:n≤3)(hkk:kk<n)(hj:j<N - r)(hp:(g (r+j)).getD kk 0≠0):RkI M0 n N (kk+1) (r+1) (4*bb+1) (ku kk (r+1) (N - (r+1)) (g (r+j)) (swG g r j)):=by
 have hP:=h.ln (r+j) (by omega)
 have hsw:∀ t,t<N→∃ s,s<N∧swG g r j t=g s:=by
  intro t ht
  unfold swG
  split
  ·exact⟨r,by omega,rfl⟩
  ·split
   ·exact⟨r+j,by omega,rfl⟩
   ·exact⟨t,ht,rfl⟩
 have hred:∀ t,r+1≤t→t<N→ku kk (r+1) (N - (r+1)) (g (r+j)) (swG g r j) t=yN kk (g (r+j)) (swG g r j t):=by
  intro t h1 h2
  unfold ku
  rw[if_pos ⟨h1,by omega⟩]
 have hE:tD kk (g (r+j)) (tl N r g) (tl N (r+1) (ku kk (r+1) (N - (r+1)) (g (r+j)) (swG g r j))):=by
  refine⟨oa.2 ⟨r+j,by omega,by omega,rfl⟩,hp,fun R hR => ?_,fun S hS => ?_⟩
  ·obtain⟨t,h1,h2,rfl⟩:=oa.1 hR
   obtain⟨s,s1,s2,-,s4⟩:=JT (g:=g) hj (show r<t by omega) h2
   rw[hred t h1 h2,s4]
   exact⟨g s,oa.2 ⟨s,s1,s2,rfl⟩,wL hP.1 (h.ln s s2).1⟩
  ·obtain⟨s,h1,h2,rfl⟩:=oa.1 hS
   by_cases e:s=r+j
   ·left;rw[e]
   ·right
    obtain⟨t,t1,t2,t3⟩:=QJ (g:=g) hj h1 h2 e
    refine⟨_,oa.2 ⟨t,by omega,t2,rfl⟩,?_⟩
    rw[hred t (by omega) t2,t3]
    exact wL hP.1 (h.ln s h2).1
 refine⟨by rw[h.rk,hE.rk (by omega)];omega,by omega,fun t ht => ?_,fun t h1 h2 c hc => ?_⟩
 ·obtain⟨s,s1,s2⟩:=hsw t ht
  have hs:=h.ln s s1
  unfold ku
  split
  ·rw[s2]
   exact⟨R8 hP.1 hs.1,Zs (by omega) (by omega) hp hP.2 hs.2⟩
  ·rw[s2]
   exact⟨hs.1,fun x hx=>(hs.2 x hx).mono (by omega)⟩
 ·obtain⟨s,s1,s2,-,s4⟩:=JT (g:=g) hj (show r<t by omega) h2
  rw[hred t h1 h2,s4]
  have hd:=wL (kk:=kk) hP.1 (h.ln s s2).1
  by_cases e:c=kk
  ·subst e
   exact hd.zero hp
  ·rw[hd c,h.z s s1 s2 c (by omega),h.z (r+j) (by omega) (by omega) c (by omega)]
   grind
theorem RkI.done {M0:List (List Rat)}{n N r bb:Nat}{g:Nat→List Rat}(h:RkI M0 n N n r bb g):rkM M0=r:=by
 rw[h.rk]
 have : ¬ Q1 (tl N r g):=by
  rintro⟨a,ha,hi⟩
  obtain⟨t,t1,t2,rfl⟩:=oa.1 ha
  have z:∀ c,(g t).getD c 0=0:=fun c=>by
   by_cases e:c<n
   ·exact h.z t t1 t2 c e
   ·exact jx (by rw[(h.ln t t2).1];omega)
  unfold nz at hi
  rw[z,z,z] at hi
  grind
 rw[sC this];rfl
def Ur:Code:=seq1 nkI
def Uq:Code:=seq1 (ah 1 nkI)
def Es:Code:=seq1 (ah 2 nkI)
def rh:Code:=seq1 (ah 3 nkI)
def Up:Code:=seq1 (ah 4 nkI)
def Uo:Code:=seq1 (ah 5 nkI)
def Un:Code:=seq1 (ah 6 nkI)
theorem H2:nkI = .seq Ur (.seq Uq (.seq Es (.seq rh (.seq Up (.seq Uo (.seq Un (.block 2 (.loop iB)))))))):=rfl
theorem ajc:eK TT 3=some [.sc (.int .i64 0)]:=by kernel_rfl
theorem Uc(kk:Nat)(h0:fr.length=126)(h37:nth fr 37=iv kk):∃ fr' wr',af (CC L) run k Ur ⟨fr,hp,wr⟩=some (.normal,⟨fr',bZ (aM hp [.sc (.int .i64 0)]) hp.length ⟨.live,[iv kk]⟩,wr'⟩)∧nth fr' 9 = .ptr hp.length 0:=by
 have hx:=al1 hp [.sc (.int .i64 0)]
 have hx1:=dW [.sc (.int .i64 0)] [iv kk] rfl
 have zI':=ajc
 simp only[iv] at h37 hx1 ⊢
 simp[Ur,f17,and_assoc,Pa,HZ,bh,h0,h37,hx,hx1,zI',sI]
theorem Ub(m ms:PV)(r b:Nat)(z:Int)(hs:dq TT hp 80 m (some (iv r)) none none=some ms)(hm:∀ id off,m ≠ .ptr id off)(hc:bX (CC L) run false hp 52 [ms,.clos 53 [.ptr b 0]]=some (.sc (.int .i64 z),hp,⟨[],[],true,true⟩))(h0:fr.length=126)(h7:nth fr 7=m)(h8:nth fr 8=iv r)(h9:nth fr 9 = .ptr b 0) :
  ∃ fr' wr',af (CC L) run k Uq ⟨fr,hp,wr⟩=some (.normal,⟨fr',hp,wr'⟩)∧nth fr' 10 = .sc (.int .i64 z):=by
 simp only[iv] at h8 hs
 simp[Uq,f17,aL,and_assoc,h0,h7,h8,h9,hs,hc]
theorem KL(h0:fr.length=126)(h10:nth fr 10 = .sc (.int .i64 (-1))):∃ fr',af (CC L) run k Es ⟨fr,hp,wr⟩=some (.exit 1,⟨fr',hp,wr⟩):=by
 simp[Es,f17,h0,h10]
theorem aaR(j:Nat)(h0:fr.length=126)(h10:nth fr 10=iv j):∃ fr',af (CC L) run k Es ⟨fr,hp,wr⟩=some (.normal,⟨fr',hp,wr⟩):=by
 have : ¬ ((j:Int)<0):=by omega
 simp only[iv] at h10
 simp[Es,f17,h0,h10,this]
theorem aa6:((Region.before (fx rh))[17]?.getD 0).testBit 11=true:=by kernel_rfl
theorem aa5:((Region.before (fx rh))[17]?.getD 0).testBit 15=true:=by kernel_rfl
theorem aa4:((Region.before (fx rh))[19]?.getD 0).testBit 11=true:=by kernel_rfl
theorem aa3:((Region.before (fx rh))[19]?.getD 0).testBit 15=true:=by kernel_rfl
theorem aa2:((Region.before (fx rh))[19]?.getD 0).testBit 17=true:=by kernel_rfl
set_option maxHeartbeats 4000000 in
theorem afa(mid N r j t:Nat)(x:Bool)(ps ps1 ps2:List PV)(v v':PV)(ht:t=r+j)(htN:t<N)(hN:N≤1000)(hm:aY hp mid=some ⟨.live,ps⟩)(hv:(br ps r).head?=some v)(hv':(br ps t).head?=some v')(hc:v.cells?=some [v])(hok:dk v=true)(hc':v'.cells?=some [v'])(hok':dk v'=true)(ho:cq ps r [v']=some ps1)(ho2:cq ps1 t [v]=some ps2)(h0:fr.length=126)(h7:nth fr 7 = .own mid 1 0 N x)(h8:nth fr 8=iv r)(h10:nth fr 10=iv j) :
  ∃ fr' wr',af (CC L) run k rh ⟨fr,hp,wr⟩=some (.normal,⟨fr',bZ (bZ hp mid ⟨.live,ps1⟩) mid ⟨.live,ps2⟩,wr'⟩):=by
 have hw:=dD .i64 r j t ht (hiI (by omega))
 have hix:=KU mid N t x htN
 have hir:=KU mid N r x (by omega)
 have hsb:aY (bZ hp mid ⟨.live,ps1⟩) mid=some ⟨.live,ps1⟩:=kp hm
 have hb1:=aa6
 have hb2:=aa5
 have hb3:=aa4
 have hb4:=aa3
 have hb5:=aa2
 simp[-Nat.testBit_zero,rh,f17,fx] at hb1 hb2 hb3 hb4 hb5
 simp only[iv] at h8 h10
 simp[-Nat.testBit_zero,hb1,hb2,hb3,hb4,hb5,rh,f17,partOf,bh,h0,h7,h8,h10,hw,hix,hir,hm,hv,hv',hc,hc',hok,hok',ho,ho2,hsb,Xy,pM,aV,number,FP.free,cH,FP.apart]
theorem ae9(mid N r:Nat)(x:Bool)(ps:List PV)(v:PV)(hr:r<N)(hm:aY hp mid=some ⟨.live,ps⟩)(hv:(br ps r).head?=some v)(hok:dk v=true)(h0:fr.length=126)(h7:nth fr 7 = .own mid 1 0 N x)(h8:nth fr 8=iv r) :
  ∃ fr',af (CC L) run k Up ⟨fr,hp,wr⟩=some (.normal,⟨fr',hp,wr⟩)∧nth fr' 11=v:=by
 have hir:=KU mid N r x hr
 simp only[iv] at h8
 simp[Up,f17,partOf,h0,h7,h8,hir,hm,hv,Xy,pM,aV]
theorem ae8(r:Nat)(hr:r<1000)(h0:fr.length=126)(h8:nth fr 8=iv r) :
  ∃ fr',af (CC L) run k Uo ⟨fr,hp,wr⟩=some (.normal,⟨fr',hp,wr⟩)∧nth fr' 8=iv (r+1):=by
 have hw:=bH r (by omega)
 simp only[iv] at h8
 simp[Uo,f17,h0,h8,hw]
theorem adb(mid N r:Nat)(x:Bool)(hr:r≤N):dq TT hp 80 (.own mid 1 0 N x) (some (iv r)) none none=some (.own mid 1 r (N - r) x):=by
 simp only[iv,dq,kO,gQ,pM,bnd,fk,bm]
 rw[if_pos ⟨hr,Nat.le_refl _⟩]
 simp[gE]
theorem ae7(mid N r:Nat)(x:Bool)(hr:r≤N)(h0:fr.length=126)(h7:nth fr 7 = .own mid 1 0 N x)(h8:nth fr 8=iv r) :
  ∃ fr',af (CC L) run k Un ⟨fr,hp,wr⟩=some (.normal,⟨fr',hp,wr⟩)∧nth fr' 73 = .own mid 1 r (N - r) x∧nth fr' 74=iv (N - r)∧nth fr' 75=iv 0:=by
 have hs:=adb hp mid N r x hr
 simp only[iv] at h8 hs
 simp[Un,f17,bO,gW,h0,h7,h8,hs,kO]
theorem aaX (L:Lst)(hL:NkC L)(kq:Nat)(hp:List Blk)(mid N r kk n bb b:Nat)(x:Bool)(g:Nat→List Rat)(hN:N≤999)(hk:N≤kq)(hr:r≤N)(hkk:kk<n)(hg:∀ t,t<N→(g t).length=n∧RbL bb (g t))(hbb:bb≤100000)(hR:Rws hp mid N g)(hb:aY hp b=some ⟨.live,[iv kk]⟩) :
  ∃ z,bX (CC L) (runK (CC L) (kq+2)) false hp 52 [.own mid 1 r (N - r) x,.clos 53 [.ptr b 0]]=some (.sc (.int .i64 z),hp,⟨[],[],true,true⟩)∧((z = -1∧∀ t,t<N - r→(g (r+t)).getD kk 0=0)∨∃ j:Nat,z=j∧j<N - r∧(g (r+j)).getD kk 0≠0):=by
 obtain⟨ps,q1,q2,q3⟩:=hR
 have hc:∀ i,i<N - r→(br ps (r+i)).head?=some ((ps[r+i]?).getD .any)∧dk ((ps[r+i]?).getD .any)=true∧∀ dr,bX (CC L) (runK (CC L) (kq+1)) dr hp 53 ([(ps[r+i]?).getD .any]++[.ptr b 0])=some (.sc (.bool (!decide ((g (r+i)).getD kk 0=0))),hp,⟨[],[],true,true⟩):=by
  intro i hi
  obtain⟨v,v1,v2⟩:=q3 (r+i) (by omega)
  obtain⟨gl,gb⟩:=hg (r+i) (by omega)
  have hkl:kk<(g (r+i)).length:=by omega
  rw[v1,Option.getD_some]
  refine⟨by rw[cA,head?_drop,v1],v2.at.ok,fun dr => ?_⟩
  have:=R3 L kq hp v (g (r+i)) kk b (gp (g (r+i))[kk]) v2.at hkl hb (Cg hL.sg _ (p:=.agg (rcs (g (r+i))[kk])) (u:=some (g (r+i))[kk]) (.inl rfl) (gb _ (getElem_mem _)) (by omega)) dr
  rw[Bq] at this
  rw[gj hkl]
  exact this
 rcases adT L (kq+1) hp mid r (N - r) x ps 53 [.ptr b 0] _ _ (by omega) (by omega) q1 hc with ⟨h1,h2⟩| ⟨j,h1,h2,h3,h4⟩
 ·refine⟨-1,mo wD h2 rfl false,.inl ⟨rfl,fun t ht => ?_⟩⟩
  have:=h1 t ht
  simpa using this
 ·refine⟨j,mo wD h4 rfl false,.inr ⟨j,rfl,h1,?_⟩⟩
  simpa using h2
theorem TC (ps:List PV)(t:Nat)(w:PV)(h:t<ps.length):cq ps t [w]=some (ps.set t w):=by
 have:=kA (e:=id) ps t w h
 simpa using this
theorem Hex.frame {a b:List Blk}{w i:Nat}{x:Blk}(h:Hex a b w)(hi:aY a i=some x)(hw:i≠w):aY b i=some x:=by rw[h.2 i (eO hi) hw,hi]
theorem afg (L:Lst)(hL:NkC L)(kq k:Nat)(fr:List PV)(hp:List Blk)(wr:List Nat)(M0:List (List Rat))(mid N r kk n bb:Nat)(x:Bool)(g:Nat→List Rat)(hN:N≤998)(hk:N≤kq)(hk2:N<k)(hk3:n<k)(hn:n≤3)(hkk:kk<n)(hbb:bb≤100000)(hI:RkI M0 n N kk r bb g)(hR:Rws hp mid N g)(h0:fr.length=126)(h7:nth fr 7 = .own mid 1 0 N x)(h8:nth fr 8=iv r)(h37:nth fr 37=iv kk) :
  ∃ fr' hp' wr' r' g',af (CC L) (runK (CC L) (kq+2)) k (.block 1 nkI) ⟨fr,hp,wr⟩=some (.normal,⟨fr',hp',wr'⟩)∧nth fr' 8=iv r'∧Hex hp hp' mid∧Rws hp' mid N g'∧RkI M0 n N (kk+1) r' (4*bb+1) g':=by
 have hr:=hI.le
 obtain⟨fr1,wr1,a1,a2⟩:=Uc L (runK (CC L) (kq+2)) k fr hp wr kk h0 h37
 have K1:=bJ _ a1
 have hml:mid<hp.length:=by
  obtain⟨ps,q1,-⟩:=hR
  exact eO q1
 have G1:=Hgr.afo hp [.sc (.int .i64 0)] ⟨.live,[iv kk]⟩
 have F1:=al2 hp [.sc (.int .i64 0)] ⟨.live,[iv kk]⟩
 generalize bZ (aM hp [.sc (.int .i64 0)]) hp.length ⟨.live,[iv kk]⟩=hp1 at *
 have hR1:=hR.gr G1
 obtain⟨z,hc,hz⟩:=aaX L hL kq hp1 mid N r kk n bb hp.length x g (by omega) hk hr hkk hI.ln hbb hR1 F1
 have e7:nth fr1 7 = .own mid 1 0 N x:=K1.at h7 (by kernel_rfl)
 have e8:nth fr1 8=iv r:=K1.at h8 (by kernel_rfl)
 obtain⟨fr2,wr2,b1,b2⟩:=Ub L (runK (CC L) (kq+2)) k fr1 hp1 wr1 (.own mid 1 0 N x) (.own mid 1 r (N - r) x) r hp.length z (adb hp1 mid N r x hr) (fun _ _ e=>by cases e) hc (K1.len h0) e7 e8 a2
 have K2:=bJ _ b1
 rcases hz with ⟨rfl,hz⟩| ⟨j,rfl,hj,hne⟩
 ·obtain⟨fr3,c1⟩:=KL L (runK (CC L) (kq+2)) k fr2 hp1 wr2 (K2.len (K1.len h0)) b2
  have K3:=bJ _ c1
  refine⟨fr3,hp1,wr2,r,g,jX ?_,K3.at (K2.at e8 (by kernel_rfl)) (by kernel_rfl),G1.to mid,hR1,hI.skip hz⟩
  rw[H2,av a1,av b1]
  exact lD c1
 ·obtain⟨ps,q1,q2,q3⟩:=hR1
  obtain⟨fr3,c1⟩:=aaR L (runK (CC L) (kq+2)) k fr2 hp1 wr2 j (K2.len (K1.len h0)) b2
  have K3:=bJ _ c1
  obtain⟨v,v1,v2⟩:=q3 r (by omega)
  obtain⟨v',v1',v2'⟩:=q3 (r+j) (by omega)
  have l3:=K3.len (K2.len (K1.len h0))
  have g7:nth fr3 7 = .own mid 1 0 N x:=K3.at (K2.at e7 (by kernel_rfl)) (by kernel_rfl)
  have g8:nth fr3 8=iv r:=K3.at (K2.at e8 (by kernel_rfl)) (by kernel_rfl)
  have g9:nth fr3 9 = .ptr hp.length 0:=K3.at (K2.at a2 (by kernel_rfl)) (by kernel_rfl)
  have g10:nth fr3 10=iv j:=K3.at b2 (by kernel_rfl)
  obtain⟨fr4,wr4,d1⟩:=afa L (runK (CC L) (kq+2)) k fr3 hp1 wr2 mid N r j (r+j) x ps (ps.set r v') ((ps.set r v').set (r+j) v) v v' rfl (by omega) (by omega) q1 (by rw[cA,head?_drop,v1]) (by rw[cA,head?_drop,v1']) v2.at.cells v2.at.ok v2'.at.cells v2'.at.ok (TC _ _ _ (by omega)) (TC _ _ _ (by rw[length_set];omega)) l3 g7 g8 g10
  have K4:=bJ _ d1
  have hm1:aY (bZ hp1 mid ⟨.live,ps.set r v'⟩) mid=some ⟨.live,ps.set r v'⟩:=kp q1
  have X4:Hex hp1 (bZ (bZ hp1 mid ⟨.live,ps.set r v'⟩) mid ⟨.live,(ps.set r v').set (r+j) v⟩) mid:=(Hex.set q1).trans (Hex.set hm1)
  have hm4:aY (bZ (bZ hp1 mid ⟨.live,ps.set r v'⟩) mid ⟨.live,(ps.set r v').set (r+j) v⟩) mid=some ⟨.live,(ps.set r v').set (r+j) v⟩:=kp hm1
  generalize bZ (bZ hp1 mid ⟨.live,ps.set r v'⟩) mid ⟨.live,(ps.set r v').set (r+j) v⟩=hp4 at *
  have hk4:∀ i,i<hp1.length→i≠mid→aY hp4 i=aY hp1 i:=X4.2
  have hR4:Rws hp4 mid N (swG g r j):=by
   refine⟨_,hm4,by rw[length_set,length_set];exact q2,fun t ht => ?_⟩
   unfold swG
   by_cases e:t=r+j
   ·rw[if_pos e,e]
    exact⟨v,by rw[getElem?_set_self (by rw[length_set];omega)],v2.mono hk4⟩
   ·rw[if_neg e,getElem?_set_ne (Ne.symm e)]
    by_cases e2:t=r
    ·rw[if_pos e2,e2]
     exact⟨v',by rw[getElem?_set_self (by omega)],v2'.mono hk4⟩
    ·rw[if_neg e2,getElem?_set_ne (Ne.symm e2)]
     obtain⟨u,u1,u2⟩:=q3 t ht
     exact⟨u,u1,u2.mono hk4⟩
  have hvr:((ps.set r v').set (r+j) v)[r]?=some v':=by
   by_cases e:j=0
   ·subst e
    rw[show r+0=r by omega,getElem?_set_self (by rw[length_set];omega)]
    rw[show r+0=r by omega,v1] at v1'
    exact v1'
   ·rw[getElem?_set_ne (by omega),getElem?_set_self (by omega)]
  have l4:=K4.len l3
  obtain⟨fr5,f1,f2⟩:=ae9 L (runK (CC L) (kq+2)) k fr4 hp4 wr4 mid N r x _ v' (by omega) hm4 (by rw[cA,head?_drop,hvr]) v2'.at.ok l4 (K4.at g7 (by kernel_rfl)) (K4.at g8 (by kernel_rfl))
  have K5:=bJ _ f1
  obtain⟨fr6,i1,i2⟩:=ae8 L (runK (CC L) (kq+2)) k fr5 hp4 wr4 r (by omega) (K5.len l4) (K5.at (K4.at g8 (by kernel_rfl)) (by kernel_rfl))
  have K6:=bJ _ i1
  have m7:nth fr6 7 = .own mid 1 0 N x:=K6.at (K5.at (K4.at g7 (by kernel_rfl)) (by kernel_rfl)) (by kernel_rfl)
  have l6:=K6.len (K5.len l4)
  obtain⟨fr7,j1,j2,j3,j4⟩:=ae7 L (runK (CC L) (kq+2)) k fr6 hp4 wr4 mid N (r+1) x (by omega) l6 m7 i2
  have K7:=bJ _ j1
  have hP:=hI.ln (r+j) (by omega)
  have hb4:aY hp4 hp.length=some ⟨.live,[iv kk]⟩:=X4.frame F1 (by omega)
  have hpm:v' ≠ .own mid 4 0 n true:=by
   rcases v2' with h | ⟨id,h,h',-⟩
   ·rw[h];intro e;cases e
   ·rw[h'];intro e
    simp only[PV.own.injEq] at e
    exact h e.1
  obtain⟨fr8,hp8,wr8,n1,n2,n3⟩:=aaQ L (runK (CC L) (kq+2)) k hL fr7 hp4 wr4 v' (g (r+j)) (swG g r j) hp.length kk mid N (r+1) n bb x x hP.1 hn hk3 (by omega) hkk (v2'.mono hk4).at (by rw[← gj];exact hne) hP.2 hbb (fun t ht=>by
   unfold swG
   split
   ·exact hI.ln r (by omega)
   ·split
    ·exact hP
    ·exact hI.ln t ht) hb4 (by omega) (by omega) (by omega) hR4 hpm (K7.len l6) (K7.at m7 (by kernel_rfl)) (K7.at i2 (by kernel_rfl)) (K7.at (K6.at (K5.at (K4.at g9 (by kernel_rfl)) (by kernel_rfl)) (by kernel_rfl)) (by kernel_rfl)) (K7.at (K6.at f2 (by kernel_rfl)) (by kernel_rfl)) j2 j3 j4
  have K8:=bJ _ n1
  refine⟨fr8,hp8,wr8,r+1,_,dH ?_,K8.at (K7.at i2 (by kernel_rfl)) (by kernel_rfl),((G1.to mid).trans X4).trans n2,n3,hI.step hn hkk hj hne⟩
  rw[H2,av a1,av b1,av c1,av d1,av f1,av i1,av j1]
  exact n1
def aa7:Code:=seq1 (seq1 (ah 5 nkC))
def Ue:Code:=cw (ah 2 nkB)
theorem ajv:ah 5 nkC = .seq (.seq aa7 (.block 0 (.loop nkB))) (ah 6 nkC):=rfl
theorem aif:ah 2 nkB = .seq (.block 1 nkI) Ue:=rfl
theorem aid(n j:Nat)(hj:j<n)(h0:fr.length=126)(h36:nth fr 36=iv n)(h37:nth fr 37=iv j):aX (CC L) run k 2 nkB ⟨fr,hp,wr⟩=some ⟨dR fr 38 (.sc (.bool true)),hp,wr⟩:=by
 simp only[iv] at h36 h37
 simp[aX,f17,h0,h36,h37,hj]
theorem aff(n:Nat)(h0:fr.length=126)(h36:nth fr 36=iv n)(h37:nth fr 37=iv n):af (CC L) run k nkB ⟨fr,hp,wr⟩=some (.exit 0,⟨dR fr 38 (.sc (.bool false)),hp,wr⟩):=by
 simp only[iv] at h36 h37
 simp[f17,h0,h36,h37]
theorem afc(j:Nat)(hj:j<1000)(h0:fr.length=126)(h37:nth fr 37=iv j):∃ fr',af (CC L) run k Ue ⟨fr,hp,wr⟩=some (.normal,⟨fr',hp,wr⟩)∧nth fr' 37=iv (j+1):=by
 have hw:=bH j (by omega)
 simp only[iv] at h37
 simp[Ue,f17,cw,h0,h37,hw]
theorem Er (L:Lst)(run:ar)(k:Nat)(m:PV)(n:Nat)(Inv:Nat→Nat→List Blk→Prop)(hn:n≤3)(hk:n<k)(step:∀ kk fr hp wr r,kk<n→Inv kk r hp→fr.length=126→nth fr 7=m→nth fr 8=iv r→nth fr 37=iv kk→∃ fr' hp' wr' r',af (CC L) run k (.block 1 nkI) ⟨fr,hp,wr⟩=some (.normal,⟨fr',hp',wr'⟩)∧nth fr' 8=iv r'∧Inv (kk+1) r' hp')(fr:List PV)(hp:List Blk)(wr:List Nat)(hI:Inv 0 0 hp)(h0:fr.length=126)(h7:nth fr 7=m)(h8:nth fr 8=iv 0)(h36:nth fr 36=iv n)(h37:nth fr 37=iv 0) :
  ∃ fr' hp' wr' r,af (CC L) run k (.block 0 (.loop nkB)) ⟨fr,hp,wr⟩=some (.normal,⟨fr',hp',wr'⟩)∧nth fr' 8=iv r∧Inv n r hp':=by
 obtain⟨st,b1,r,b2,b3⟩:=x9 (C:=CC L) (run:=run) (k:=k) (e:=0) (b:=nkB) (n:=n) (st:=⟨fr,hp,wr⟩)
  (Inv:=fun i st=>fD (dQ nkB) fr st.fr∧nth st.fr 37=iv i∧∃ r,nth st.fr 8=iv r∧Inv i r st.hp)
  (Q:=fun st=>∃ r,nth st.fr 8=iv r∧Inv n r st.hp) hk
  (fun i st hi ⟨k1,k2,r,k3,k4⟩=>by
   obtain⟨fr1,hp1,wr1⟩:=st
   dsimp only at k1 k2 k3 k4
   have c0:=k1.len h0
   have gg:=aid L run k fr1 hp1 wr1 n i hi c0 (k1.at h36 (by kernel_rfl)) k2
   have s0:(dR fr1 38 (.sc (.bool true))).length=126:=by rw[ab];exact c0
   have s1:∀ t,t≠38→nth (dR fr1 38 (.sc (.bool true))) t=nth fr1 t:=fun t ht=>ae ht
   obtain⟨fr2,hp2,wr2,r',a1,a2,a3⟩:=step i _ hp1 wr1 r hi k4 s0 ((s1 7 (by omega)).trans (k1.at h7 (by kernel_rfl))) ((s1 8 (by omega)).trans k3) ((s1 37 (by omega)).trans k2)
   have K2:=bJ _ a1
   obtain⟨fr3,d1,d2⟩:=afc L run k fr2 hp2 wr2 i (by omega) (K2.len s0) (K2.at ((s1 37 (by omega)).trans k2) (by kernel_rfl))
   have K3:=bJ _ d1
   have hall:af (CC L) run k nkB ⟨fr1,hp1,wr1⟩=some (.normal,⟨fr3,hp2,wr2⟩):=by
    rw[aO 2 gg,aif,av a1];exact d1
   exact⟨_,hall,k1.trans (bJ _ hall),d2,r',K3.at a2 (by kernel_rfl),a3⟩)
  (fun st ⟨k1,k2,r,k3,k4⟩=>by
   obtain⟨fr1,hp1,wr1⟩:=st
   dsimp only at k1 k2 k3 k4
   have g:=aff L run k fr1 hp1 wr1 n (k1.len h0) (k1.at h36 (by kernel_rfl)) k2
   exact⟨_,g,r,by dsimp only;rw[ae (by omega)];exact k3,k4⟩)
  ⟨fD.refl _ _,h37,0,h8,hI⟩
 obtain⟨fr',hp2,wr'⟩:=st
 exact⟨fr',hp2,wr',r,b1,b2,b3⟩
theorem adV(g:Nat)(caps:List PV)(hk:0<k):runK (CC L) (k+1) 52 [.sc (.slice none 0 0),.clos g caps] hp=some ([.sc (.int .i64 (-1))],hp,[]):=by
 obtain⟨fr,fr1,a1,a2,a3⟩:=P7 L (runK (CC L) k) k (.sc (.slice none 0 0)) (.clos g caps) 0 rfl hp
 obtain⟨fr2,b1,b2⟩:=P8 L (runK (CC L) k) k fr1 hp _ _ 0 a3
 have:af (CC L) (runK (CC L) k) k (.seq LW (.block 0 (.loop vfB))) ⟨fr,hp,[]⟩=some (.normal,⟨fr2,hp,[]⟩):=by
  rw[av a2];exact bN (ca (bD (n:=0) b1) (by omega))
 obtain⟨st,c1,c2,c3,c4⟩:=JN L (runK (CC L) k) k fr2 hp b2
 have hx:af (CC L) (runK (CC L) k) k vfC ⟨entry 19 [.sc (.slice none 0 0),.clos g caps],hp,[]⟩=some (.ret,st):=by
  rw[aO 1 a1,Gd,av this,c1]
 have:=jz qp rfl hx c4
 rw[c2,c3] at this
 exact this
theorem aa0 (L:Lst)(kq k:Nat)(fr:List PV)(hp:List Blk)(wr:List Nat)(kk:Nat)(h0:fr.length=126)(h7:nth fr 7 = .sc (.slice none 0 0))(h8:nth fr 8=iv 0)(h37:nth fr 37=iv kk) :
  ∃ fr' hp' wr',af (CC L) (runK (CC L) (kq+2)) k (.block 1 nkI) ⟨fr,hp,wr⟩=some (.normal,⟨fr',hp',wr'⟩)∧nth fr' 8=iv 0:=by
 obtain⟨fr1,wr1,a1,a2⟩:=Uc L (runK (CC L) (kq+2)) k fr hp wr kk h0 h37
 have K1:=bJ _ a1
 generalize bZ (aM hp [.sc (.int .i64 0)]) hp.length ⟨.live,[iv kk]⟩=hp1 at *
 have hs:dq TT hp1 80 (.sc (.slice none 0 0)) (some (iv 0)) none none=some (.sc (.slice none 0 0)):=by
  simp only[iv,dq,kO,gQ,pM,bnd,fk,bm]
  rfl
 have e8:nth fr1 8=iv 0:=K1.at h8 (by kernel_rfl)
 obtain⟨fr2,wr2,b1,b2⟩:=Ub L (runK (CC L) (kq+2)) k fr1 hp1 wr1 _ _ 0 hp.length (-1) hs (fun _ _ e=>by cases e) (mo wD (adV L (kq+1) hp1 _ _ (by omega)) rfl false) (K1.len h0) (K1.at h7 (by kernel_rfl)) e8 a2
 have K2:=bJ _ b1
 obtain⟨fr3,c1⟩:=KL L (runK (CC L) (kq+2)) k fr2 hp1 wr2 (K2.len (K1.len h0)) b2
 have K3:=bJ _ c1
 refine⟨fr3,hp1,wr2,jX ?_,K3.at (K2.at e8 (by kernel_rfl)) (by kernel_rfl)⟩
 rw[H2,av a1,av b1]
 exact lD c1
theorem afh(c:List (List ByteArray))(l:List Int)(e:Nat)(he:e≠0)(g:au L run 50 [cE c,aE l,.sc (.int .i64 (-1))] (iv e)) :
  ∃ st,af (CC L) run k nkC ⟨entry 126 [cE c,aE l],[],[]⟩=some (.ret,st)∧aU TT st.fr st.hp f17.results.toList=some [iv 0,iv e]:=by
 obtain⟨e1,e2,e3⟩:=cn 124 (cE c) (aE l)
 generalize entry 126 [cE c,aE l]=fr0 at *
 have hb:((e:Int) != 0)=true:=by simp;omega
 unfold au at g
 simp only[iv] at g ⊢
 simp[f17,aL,e1,e2,e3,g,hb,aU]
theorem aaT(c:List (List ByteArray))(g:au L run 50 [cE c,aE [],.sc (.int .i64 (-1))] (iv 0)) :
  ∃ st,af (CC L) run k nkC ⟨entry 126 [cE c,aE []],[],[]⟩=some (.ret,st)∧aU TT st.fr st.hp f17.results.toList=some [Ab.bz (-1),iv 0]:=by
 obtain⟨e1,e2,e3⟩:=cn 124 (cE c) (aE [])
 generalize entry 126 [cE c,aE []]=fr0 at *
 have hl:dn (aE [])=some 0:=rfl
 unfold au at g
 simp only[iv,Int.cast_ofNat_Int] at g ⊢
 simp[Ab.bz,f17,aL,bO,e1,e2,e3,g,hl,jA,aU]
theorem afb(c:List (List ByteArray))(l:List Int)(hl0:l≠[])(g:au L run 50 [cE c,aE l,.sc (.int .i64 (-1))] (iv 0))(p:PV)(hp':List Blk)(fp:FP)(hc:bX (CC L) run false [] 51 [cE c,aE l]=some (p,hp',fp)) :
  ∃ fr' wr',aX (CC L) run k 5 nkC ⟨entry 126 [cE c,aE l],[],[]⟩=some ⟨fr',hp',wr'⟩∧fr'.length=126∧nth fr' 0=cE c∧nth fr' 1=aE l∧nth fr' 7=p∧nth fr' 8=iv 0:=by
 obtain⟨e1,e2,e3⟩:=cn 124 (cE c) (aE l)
 generalize entry 126 [cE c,aE l]=fr0 at *
 have hl:dn (aE l)=some l.length:=by simp[aE,fg,dn]
 have hne:l.length≠0:=by simpa using hl0
 unfold au at g
 generalize l.length=m at *
 have hz:((m:Int) == 0)=false:=by rw[beq_eq_false_iff_ne];omega
 simp only[iv,Int.cast_ofNat_Int] at g ⊢
 simp[hz,aX,f17,aL,bO,and_assoc,e1,e2,e3,g,hl,jA,hc]
theorem aic(c:List (List ByteArray))(l:List Int)(j:Nat)(hl0:0<l.length)(hlj:l[0]=(j:Int))(hj:j<c.length)(h0:fr.length=126)(h00:nth fr 0=cE c)(h01:nth fr 1=aE l) :
  ∃ fr',af (CC L) run k aa7 ⟨fr,hp,wr⟩=some (.normal,⟨fr',hp,wr⟩)∧nth fr' 36=iv c[j].length∧nth fr' 37=iv 0:=by
 obtain⟨r',y1,y2⟩:=gi uCl c j hj
 obtain⟨r,x1,x2⟩:=nm l 0 hl0
 have hl:=fY c[j]
 rw[hlj] at x2
 rw[show (((0:Nat):Int))=(0:Int) from rfl] at x1
 simp[aa7,f17,bO,partOf,h0,h00,h01,x1,x2,y1,y2,hl,aI,sI,aPt,sPt,uPt,aV]
theorem aaS(r:Nat)(h0:fr.length=126)(h8:nth fr 8=iv r):∃ st,af (CC L) run k (ah 6 nkC) ⟨fr,hp,wr⟩=some (.ret,st)∧aU TT st.fr st.hp f17.results.toList=some [iv r,iv 0]:=by
 simp[f17,h0,h8,aU]
end Go.Proofs.YtjdmodeenbdfpaaGreat
end
