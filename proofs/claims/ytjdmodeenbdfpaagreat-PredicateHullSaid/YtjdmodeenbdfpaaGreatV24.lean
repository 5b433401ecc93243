/- Ranks by elimination and by minors, part 24; each lemma states its conditions. -/
import Derived.Test.YtjdmodeenbdfpaaGreatV23
import Derived.Test.YtjdmodeenbdfpaaGreatV07
set_option linter.unusedSimpArgs false
set_option linter.unusedVariables false
noncomputable section
namespace Go.Proofs.YtjdmodeenbdfpaaGreat
open Go Go.Ab List Tryz
attribute [local simp] FzZ aA aF aG aH aM aZ ae ag ah aj an ao aq au av bf
variable(L:Lst)(run:aw)(k:Nat)(fr:Ψ)(hp:Θ)(wr:Ω)
structure tJ (k:Nat) (p:List Rat) (M R:List (List Rat)):Prop where
 mem:p ∈ M
 piv:p.getD k 0≠0
 fwd:∀ r,r ∈ R→∃ s,s ∈ M∧Red k p s r
 bwd:∀ s,s ∈ M→s=p∨∃ r,r ∈ R∧Red k p s r
theorem Red.mul {p s r:List Rat}{k:Nat}(h:Red k p s r)(hp:p.getD k 0≠0)(i:Nat):p.getD k 0*r.getD i 0=p.getD k 0*s.getD i 0 - s.getD k 0*p.getD i 0:=by
 have e:s.getD k 0 / p.getD k 0*p.getD k 0=s.getD k 0:=Rat.div_mul_cancel hp
 rw[h i]
 generalize s.getD k 0 / p.getD k 0=x at *
 rw[← e]
 grind
theorem VO {x y:Rat}(hx:x≠0)(h:x*y=0):y=0:=by
 rcases Rat.mul_eq_zero.1 h with e | e
 ·exact absurd e hx
 ·exact e
theorem tJ.q12 {k:Nat}(hk:k<3){p:List Rat}{M R:List (List Rat)}(h:tJ k p M R):Q1 R→Q2 M:=by
 rintro⟨r,hr,hn⟩
 obtain⟨s,hs,hd⟩:=h.fwd r hr
 refine Classical.byContradiction fun e => ?_
 obtain⟨e1,e2,e3⟩:=xJ (a:=p) (b:=s) fun e'=>e ⟨p,h.mem,s,hs,e'⟩
 have m0:=hd.mul h.piv 0
 have m1:=hd.mul h.piv 1
 have m2:=hd.mul h.piv 2
 have hz:∀ i,p.getD k 0*r.getD i 0=0→r.getD i 0=0:=fun i=>VO h.piv
 unfold cr1 at e1
 unfold cr2 at e2
 unfold cr3 at e3
 have:k=0∨k=1∨k=2:=by omega
 have z0:r.getD 0 0=0:=hz 0 (by rw[m0];rcases this with rfl | rfl | rfl <;> grind)
 have z1:r.getD 1 0=0:=hz 1 (by rw[m1];rcases this with rfl | rfl | rfl <;> grind)
 have z2:r.getD 2 0=0:=hz 2 (by rw[m2];rcases this with rfl | rfl | rfl <;> grind)
 rcases hn with e | e | e
 ·exact e z0
 ·exact e z1
 ·exact e z2
theorem tJ.q21 {k:Nat}{p:List Rat}{M R:List (List Rat)}(h:tJ k p M R):Q2 M→Q1 R:=by
 rintro⟨a,ha,b,hb,hi⟩
 refine Classical.byContradiction fun e => ?_
 have key:∀ s,s ∈ M→∀ i,i<3→p.getD k 0*s.getD i 0=s.getD k 0*p.getD i 0:=fun s hs i hi=>by
  rcases h.bwd s hs with rfl | ⟨r,hr,hd⟩
  ·rfl
  ·obtain⟨z0,z1,z2⟩:=Vx (a:=r) fun e'=>e ⟨r,hr,e'⟩
   have m:=hd.mul h.piv i
   have:r.getD i 0=0:=by
    have:i=0∨i=1∨i=2:=by omega
    rcases this with rfl | rfl | rfl <;> assumption
   rw[this,Rat.mul_zero] at m
   grind
 have a0:=key a ha 0 (by omega)
 have a1:=key a ha 1 (by omega)
 have a2:=key a ha 2 (by omega)
 have b0:=key b hb 0 (by omega)
 have b1:=key b hb 1 (by omega)
 have b2:=key b hb 2 (by omega)
 have hp:=h.piv
 have g:∀ x:Rat,p.getD k 0*(p.getD k 0*x)=0→x=0:=fun x hx=>VO hp (VO hp hx)
 generalize p.getD k 0=q at *
 generalize a.getD k 0=ak at *
 generalize b.getD k 0=bk at *
 have c1:cr1 a b=0:=g _ (by
  have:q*(q*cr1 a b)=(q*a.getD 1 0)*(q*b.getD 2 0) - (q*a.getD 2 0)*(q*b.getD 1 0):=by unfold cr1;grind
  rw[this,a1,a2,b1,b2];grind)
 have c2:cr2 a b=0:=g _ (by
  have:q*(q*cr2 a b)=(q*a.getD 2 0)*(q*b.getD 0 0) - (q*a.getD 0 0)*(q*b.getD 2 0):=by unfold cr2;grind
  rw[this,a0,a2,b0,b2];grind)
 have c3:cr3 a b=0:=g _ (by
  have:q*(q*cr3 a b)=(q*a.getD 0 0)*(q*b.getD 1 0) - (q*a.getD 1 0)*(q*b.getD 0 0):=by unfold cr3;grind
  rw[this,a0,a1,b0,b1];grind)
 rcases hi with e | e | e
 ·exact e c1
 ·exact e c2
 ·exact e c3
theorem tJ.q23 {k:Nat}(hk:k<3){p:List Rat}{M R:List (List Rat)}(h:tJ k p M R):Q2 R→Q3 M:=by
 rintro⟨r,hr,t,ht,hi⟩
 obtain⟨s,hs,hd⟩:=h.fwd r hr
 obtain⟨u,hu,hd'⟩:=h.fwd t ht
 refine⟨p,h.mem,s,hs,u,hu,?_⟩
 have zr:=hd.zero h.piv
 have zt:=hd'.zero h.piv
 rw[KV hd hd',RU hk zr zt]
 intro e
 have e2:=VO h.piv e
 have:k=0∨k=1∨k=2:=by omega
 unfold PB cr1 cr2 cr3 at hi
 rcases this with rfl | rfl | rfl
 ·simp only[if_true,cr1] at e2
  rw[zr,zt] at hi
  grind
 ·simp only[cr2] at e2
  rw[zr,zt] at hi
  grind
 ·simp only[cr3] at e2
  rw[zr,zt] at hi
  grind
theorem tJ.q32 {k:Nat}(hk:k<3){p:List Rat}{M R:List (List Rat)}(h:tJ k p M R):Q3 M→Q2 R:=by
 rintro⟨a,ha,b,hb,c,hc,hi⟩
 refine Classical.byContradiction fun e=>hi ?_
 have key:∀ s,s ∈ M→∀ u,u ∈ M→tri p s u=0:=fun s hs u hu=>by
  rcases h.bwd s hs with rfl | ⟨r,hr,hd⟩
  ·unfold tri cr1 cr2 cr3;grind
  ·rcases h.bwd u hu with rfl | ⟨t,ht,hd'⟩
   ·unfold tri cr1 cr2 cr3;grind
   ·obtain⟨z1,z2,z3⟩:=xJ (a:=r) (b:=t) fun e'=>e ⟨r,hr,t,ht,e'⟩
    rw[KV hd hd']
    unfold tri
    rw[z1,z2,z3]
    grind
 refine VO h.piv ?_
 rw[GU p a b c k hk,key b hb c hc,key a ha c hc,key a ha b hb]
 grind
theorem tJ.n3 {k:Nat}(hk:k<3){p:List Rat}{M R:List (List Rat)}(h:tJ k p M R) : ¬ Q3 R:=by
 rintro⟨a,ha,b,hb,c,hc,hi⟩
 have z:∀ r,r ∈ R→r.getD k 0=0:=fun r hr=>by
  obtain⟨s,-,hd⟩:=h.fwd r hr
  exact hd.zero h.piv
 have za:=z a ha
 have zb:=z b hb
 have zc:=z c hc
 have:k=0∨k=1∨k=2:=by omega
 apply hi
 rcases this with rfl | rfl | rfl <;> simp[tri,cr1,cr2,cr3] <;> grind
theorem tJ.rk {k:Nat}(hk:k<3){p:List Rat}{M R:List (List Rat)}(h:tJ k p M R):rkM M=rkM R+1:=by
 have q1:Q1 M:=by
  refine⟨p,h.mem,?_⟩
  have:=h.piv
  have hk':k=0∨k=1∨k=2:=by omega
  rcases hk' with rfl | rfl | rfl
  ·exact .inl this
  ·exact .inr (.inl this)
  ·exact .inr (.inr this)
 have n3:=h.n3 hk
 by_cases h3:Q3 M
 ·rw[afI h3,Tc n3 (h.q32 hk h3)]
 ·by_cases h2:Q2 M
  ·rw[Tc h3 h2,Td (fun e=>h3 (h.q23 hk e)) (h.q21 h2)]
  ·rw[Td h2 q1,Te (fun e=>h2 (h.q12 hk e))]
theorem vM {X:List Rat}{i:Nat}(h:X.length≤i):X.getD i 0=0:=by rw[getD_eq_getElem?_getD,getElem?_eq_none h];rfl
theorem wM {kk n:Nat}{P V:List Rat}(hP:P.length=n)(hV:V.length=n):Red kk P V (DR kk P V):=by
 intro i
 unfold DR
 split
 ·rename_i h
  rw[h,Rat.div_def,Rat.zero_mul,Rat.zero_mul,Rat.sub_eq_add_neg,Rat.neg_zero,Rat.add_zero]
 ·generalize V.getD kk 0 / P.getD kk 0=f
  by_cases hi:i<n
  ·have h3:i<(C1 f V P).length:=by rw[v8 (by omega)];omega
   rw[rL h3,RL (by omega) (by omega) h3,rL (X:=V) (by omega),rL (X:=P) (by omega)]
  ·rw[vM (by rw[v8 (by omega)];omega),vM (X:=V) (by omega),vM (X:=P) (by omega)]
   grind
def tl (N r:Nat)(g:Nat→List Rat):List (List Rat):=(List.range (N - r)).map fun t=>g (r+t)
theorem tk {N r:Nat}{g:Nat→List Rat}{X:List Rat} : X ∈ tl N r g ↔ ∃ t,r≤t∧t<N∧g t=X:=by
 unfold tl
 rw[mem_map]
 constructor
 ·rintro⟨t,ht,rfl⟩
  rw[mem_range] at ht
  exact⟨r+t,by omega,by omega,rfl⟩
 ·rintro⟨t,h1,h2,rfl⟩
  exact⟨t - r,by rw[mem_range];omega,by rw[show r+(t - r)=t by omega]⟩
def swG (g:Nat→List Rat)(r j t:Nat):List Rat:=if t=r+j then g r else if t=r then g (r+j) else g t
structure RkI (M0:List (List Rat)) (n N kk r:Nat) (bb:Nat) (g:Nat→List Rat):Prop where
 rk:rkM M0=r+rkM (tl N r g)
 le:r≤N
 ln:∀ t,t<N→(g t).length=n∧RbL bb (g t)
 z:∀ t,r≤t→t<N→∀ c,c<kk→(g t).getD c 0=0
theorem RkI.skip {M0:List (List Rat)}{n N kk r bb:Nat}{g:Nat→List Rat}(h:RkI M0 n N kk r bb g)(hz:∀ t,t<N - r→(g (r+t)).getD kk 0=0):RkI M0 n N (kk+1) r (4*bb+1) g where
 rk:=h.rk
 le:=h.le
 ln:=fun t ht=>⟨(h.ln t ht).1,fun x hx=>((h.ln t ht).2 x hx).mono (by omega)⟩
 z:=fun t h1 h2 c hc=>by
  by_cases e:c=kk
  ·subst e
   have:=hz (t - r) (by omega)
   rwa [show r+(t - r)=t by omega] at this
  ·exact h.z t h1 h2 c (by omega)
theorem KX {g:Nat→List Rat}{r j N t:Nat}(hj:j<N - r)(h1:r<t)(h2:t<N):∃ s,r≤s∧s<N∧s≠r+j∧swG g r j t=g s:=by
 unfold swG
 by_cases e:t=r+j
 ·rw[if_pos e]
  by_cases e0:j=0
  ·omega
  ·exact⟨r,by omega,by omega,by omega,rfl⟩
 ·rw[if_neg e,if_neg (by omega)]
  exact⟨t,by omega,h2,e,rfl⟩
theorem RY {g:Nat→List Rat}{r j N s:Nat}(hj:j<N - r)(h1:r≤s)(h2:s<N)(hs:s≠r+j):∃ t,r<t∧t<N∧swG g r j t=g s:=by
 unfold swG
 by_cases e:s=r
 ·exact⟨r+j,by omega,by omega,by rw[if_pos rfl,e]⟩
 ·exact⟨s,by omega,h2,by rw[if_neg hs,if_neg e]⟩
theorem RkI.step {M0:List (List Rat)}{n N kk r bb j:Nat}{g:Nat→List Rat}(h:RkI M0 n N kk r bb g)(hn:n≤3)(hkk:kk<n)(hj:j<N - r)(hp:(g (r+j)).getD kk 0≠0):RkI M0 n N (kk+1) (r+1) (4*bb+1) (Tn kk (r+1) (N - (r+1)) (g (r+j)) (swG g r j)):=by
 have hP:=h.ln (r+j) (by omega)
 have hsw:∀ t,t<N→∃ s,s<N∧swG g r j t=g s:=by
  intro t ht
  unfold swG
  split
  ·exact⟨r,by omega,rfl⟩
  ·split
   ·exact⟨r+j,by omega,rfl⟩
   ·exact⟨t,ht,rfl⟩
 have hred:∀ t,r+1≤t→t<N→Tn kk (r+1) (N - (r+1)) (g (r+j)) (swG g r j) t=DR kk (g (r+j)) (swG g r j t):=by
  intro t h1 h2
  unfold Tn
  rw[if_pos ⟨h1,by omega⟩]
 have hE:tJ kk (g (r+j)) (tl N r g) (tl N (r+1) (Tn kk (r+1) (N - (r+1)) (g (r+j)) (swG g r j))):=by
  refine⟨tk.2 ⟨r+j,by omega,by omega,rfl⟩,hp,fun R hR => ?_,fun S hS => ?_⟩
  ·obtain⟨t,h1,h2,rfl⟩:=tk.1 hR
   obtain⟨s,s1,s2,-,s4⟩:=KX (g:=g) hj (show r<t by omega) h2
   rw[hred t h1 h2,s4]
   exact⟨g s,tk.2 ⟨s,s1,s2,rfl⟩,wM hP.1 (h.ln s s2).1⟩
  ·obtain⟨s,h1,h2,rfl⟩:=tk.1 hS
   by_cases e:s=r+j
   ·left;rw[e]
   ·right
    obtain⟨t,t1,t2,t3⟩:=RY (g:=g) hj h1 h2 e
    refine⟨_,tk.2 ⟨t,by omega,t2,rfl⟩,?_⟩
    rw[hred t (by omega) t2,t3]
    exact wM hP.1 (h.ln s h2).1
 refine⟨by rw[h.rk,hE.rk (by omega)];omega,by omega,fun t ht => ?_,fun t h1 h2 c hc => ?_⟩
 ·obtain⟨s,s1,s2⟩:=hsw t ht
  have hs:=h.ln s s1
  unfold Tn
  split
  ·rw[s2]
   exact⟨Tm hP.1 hs.1,aaS (by omega) (by omega) hp hP.2 hs.2⟩
  ·rw[s2]
   exact⟨hs.1,fun x hx=>(hs.2 x hx).mono (by omega)⟩
 ·obtain⟨s,s1,s2,-,s4⟩:=KX (g:=g) hj (show r<t by omega) h2
  rw[hred t h1 h2,s4]
  have hd:=wM (kk:=kk) hP.1 (h.ln s s2).1
  by_cases e:c=kk
  ·subst e
   exact hd.zero hp
  ·rw[hd c,h.z s s1 s2 c (by omega),h.z (r+j) (by omega) (by omega) c (by omega)]
   grind
theorem RkI.done {M0:List (List Rat)}{n N r bb:Nat}{g:Nat→List Rat}(h:RkI M0 n N n r bb g):rkM M0=r:=by
 rw[h.rk]
 have : ¬ Q1 (tl N r g):=by
  rintro⟨a,ha,hi⟩
  obtain⟨t,t1,t2,rfl⟩:=tk.1 ha
  have z:∀ c,(g t).getD c 0=0:=fun c=>by
   by_cases e:c<n
   ·exact h.z t t1 t2 c e
   ·exact vM (by rw[(h.ln t t2).1];omega)
  unfold nz at hi
  rw[z,z,z] at hi
  grind
 rw[Te this];rfl
theorem Hex.frame {a b:Θ}{w i:Nat}{x:Blk}(h:Hex a b w)(hi:aL a i=some x)(hw:i≠w):aL b i=some x:=by rw[h.2 i (ig hi) hw,hi]
theorem fr0:FP.free ⟨[],[],false,false⟩=true:=rfl
theorem ajc (X:List Rat):qL X = .imm X.length false (X.map qt):=by
 have e:∀ X:List Rat,(X.map qb).flatMap es=X.map qt:=fun X=>by
  induction X with
  | nil=>rfl
  | cons a X ih=>rw[map_cons,flatMap_cons,ih];rfl
 unfold qL pE iz
 rw[e,length_map]
def Rst (hp:Θ)(rows:List (List Rat))(p:PV):Prop:=(rows=[]∧p = .sc (.slice none 0 0))∨∃ id ps,p = .own id 1 0 rows.length false∧aL hp id=some ⟨.live,ps⟩∧ps.length=rows.length∧∀ t (h:t<rows.length),∃ r,r≠id∧ps[t]?=some (.own r 1 0 rows[t].length false)∧aL hp r=some ⟨.live,rows[t].map qt⟩
theorem Rst.app {hp hp3:Θ}{rows:List (List Rat)}{p:PV}{X:List Rat}{r:Nat}(h:Rst hp rows p)(hg:Hgr hp hp3)(hr:hp.length≤r)(hX:aL hp3 r=some ⟨.live,X.map qt⟩)(h9:rows.length≤1000):∃ p' hp4 fp4,cU hp3 1 p 1 [.own r 1 0 X.length false]=some (p',hp4,fp4)∧Rst hp4 (rows++[X]) p':=by
 have hrl:=ig hX
 rcases h with ⟨rfl,rfl⟩| ⟨id,ps,rfl,h1,h2,h3⟩
 ·refine⟨.own hp3.length 1 0 1 false,aO hp3 [.own r 1 0 X.length false],⟨[],[hp3.length],true,false⟩,by simp[cU,cS],.inr ⟨hp3.length,_,rfl,al1 _ _,rfl,fun t ht => ?_⟩⟩
  have e:t=0:=by simp at ht;omega
  subst e
  exact⟨r,by omega,rfl,by rw[bH,if_neg (by omega)];exact hX⟩
 ·have hid:=ig h1
  have h1':aL hp3 id=some ⟨.live,ps⟩:=by rw[hg.2 id hid,h1]
  have ht:bF (bp ps 0) (rows.length*1)=some ps:=by rw[cF,drop_zero,Nat.mul_one,dh (by omega),← h2,take_length]
  have hm:rows.length+1≤cS:=Nat.le_trans (Nat.succ_le_succ h9) (by decide)
  have hl:hp3.length=(cg hp3 id ⟨.dead,[]⟩).length:=(bJ _ _ _).symm
  refine⟨.own hp3.length 1 0 (rows.length+1) false,aO (cg hp3 id ⟨.dead,[]⟩) (ps++[.own r 1 0 X.length false]),⟨[],[id,hp3.length],true,false⟩,?_,.inr ⟨hp3.length,ps++[.own r 1 0 X.length false],by simp,?_,by simp[h2],fun t ht => ?_⟩⟩
  ·simp only[cU,h1']
   rw[if_neg (by simp),ht]
   simp only
   rw[if_pos hm]
  ·rw[hl];exact al1 _ _
  ·by_cases e:t<rows.length
   ·obtain⟨q,q1,q2,q3⟩:=h3 t e
    have hq:=ig q3
    have hgl:=hg.1
    refine⟨q,by omega,by rw[getElem?_append_left (by omega),getElem_append_left e];exact q2,?_⟩
    rw[getElem_append_left e,bH,if_neg (by rw[← hl];omega),jQ h1' q1,hg.2 q hq,q3]
   ·have e2:t=rows.length:=by simp at ht;omega
    subst e2
    refine⟨r,by omega,by rw[getElem?_append_right (by omega),h2];simp,?_⟩
    rw[bH,if_neg (by rw[← hl];omega),jQ h1' (by omega),hX]
    simp
def SqM (n:Nat)(M:List (List Rat)):Prop:=M.length=n∧∀ R ∈ M,R.length=n∧RbL 1000 R
theorem SqM.hd {n k:Nat}{M:List (List Rat)}(h:SqM (n+1) M):Rb 1000 ((M.headD []).getD k 0):=by
 cases M with
 | nil=>exact (Rb.zero 0).mono (by omega)
 | cons R M=>exact (h.2 R mem_cons_self).2.at (by omega) k
theorem R6(d r:Nat)(X:List Rat)(h:aL hp r=some ⟨.live,X.map qt⟩):snap hp (d+2) (.own r 1 0 X.length false)=some (qL X,[r]):=by
 have hs:Sc1 qt:=fun x=>.inr (.inl ⟨_,rfl⟩)
 have ht:bF (bp (X.map qt) 0) (X.length*1)=some (X.map qt):=by rw[cF,drop_zero,Nat.mul_one,dh (by simp),take_of_length_le (by simp)]
 rw[snap]
 simp only[h]
 rw[if_neg (by simp),ht]
 simp only[hs.Dh hp d X,ajc]
theorem zM (hp:Θ)(d:Nat):∀ (rows:List (List Rat)) (ps:Ψ),ps.length=rows.length→(∀ t (h:t<rows.length),∃ r,ps[t]?=some (.own r 1 0 rows[t].length false)∧aL hp r=some ⟨.live,rows[t].map qt⟩)→∃ ids,bw (snap hp (d+2)) ps=some (rows.map qL,ids)
 | [],[],_,_=>⟨[],rfl⟩
 | X::rows,p::ps,hl,h=>by
  obtain⟨r,h1,h2⟩:=h 0 (by simp)
  have h1':p = .own r 1 0 X.length false:=by simpa using h1
  obtain⟨ids,ih⟩:=zM hp d rows ps (by simpa using hl) (fun t ht=>by
   obtain⟨r,q1,q2⟩:=h (t+1) (by simpa using ht)
   exact⟨r,by simpa using q1,by simpa using q2⟩)
  refine⟨[r]++ids,?_⟩
  subst h1'
  simp only[bw,R6 hp d r X h2,ih,map_cons]
 | [],_::_,hl,_=>by simp at hl
 | _::_,[],hl,_=>by simp at hl
theorem ajd (M:List (List Rat)):qC M = .imm M.length false (M.map qL):=by
 have e:∀ M:List (List Rat),(M.map fun P=>P.map qb).flatMap ep=M.map qL:=fun M=>by
  induction M with
  | nil=>rfl
  | cons a M ih=>rw[map_cons,flatMap_cons,ih];rfl
 unfold qC cE iz
 rw[e,length_map]
theorem Rst.snap {hp:Θ}{rows:List (List Rat)}{p:PV}(h:Rst hp rows p):∃ q ids,bw (Ab.snap hp bq) [p]=some ([q],ids)∧aK [q]=[qC rows]:=by
 rcases h with ⟨rfl,rfl⟩| ⟨id,ps,rfl,h1,h2,h3⟩
 ·exact⟨.sc (.slice none 0 0),[],rfl,rfl⟩
 ·obtain⟨ids,hi⟩:=zM hp 9 rows ps h2 (fun t ht=>by
   obtain⟨r,-,q1,q2⟩:=h3 t ht
   exact⟨r,q1,q2⟩)
  have ht:bF (bp ps 0) (rows.length*1)=some ps:=by rw[cF,drop_zero,Nat.mul_one,dh (by omega),← h2,take_length]
  have hs:Ab.snap hp 12 (.own id 1 0 rows.length false)=some (qC rows,id::ids):=by
   rw[Ab.snap]
   simp only[h1]
   rw[if_neg (by simp),ht]
   simp only[hi,ajd]
  refine⟨qC rows,id::ids++[],?_,by simp only[aK,qC,iY]⟩
  show bw (Ab.snap hp 12) _=_
  simp only[bw,hs]
theorem SqM.m0 {n:Nat}{M:List (List Rat)}(h:SqM (n+1) M):∃ hM:0<M.length,M[0].length=n+1∧M.headD []=M[0]:=by
 have hM:0<M.length:=by rw[h.1];omega
 exact⟨hM,(h.2 _ (getElem_mem hM)).1,by cases M with | nil=>simp at hM | cons=>rfl⟩
theorem afN (x:Rat):gP x 0=ko x:=by rw[Ty];congr 1;grind
abbrev P2:=Rat × Rat
def q2 (p:P2):PV:=qL [p.1,p.2]
def Rb2 (k:Nat)(p:P2):Prop:=Rb k p.1∧Rb k p.2
def iE (a b p:P2):Int:=gP ((b.1 - a.1)*(p.2 - a.2)) ((b.2 - a.2)*(p.1 - a.1))
abbrev P23:=P2 × P2 × P2
def ak7 (k:Nat)(p:P23):Prop:=Rb2 k p.1∧Rb2 k p.2.1∧Rb2 k p.2.2
def SX (a b p:P2):Rat:=(a.1 - p.1)*(b.1 - p.1)+(a.2 - p.2)*(b.2 - p.2)
def ahV (a b p:P2):Bool:=decide (iE a b p=0) && decide (ko (SX a b p)≤0)
theorem R4 (x:Rat):0≤x*x:=by
 by_cases h:0≤x
 ·exact Rat.mul_nonneg h h
 ·have h':0 ≤ -x:=by grind
  have:=Rat.mul_nonneg h' h'
  grind
def ah3 (b:Nat)(hp:Θ)(X:List Rat)(p:PV):Prop:=(X=[]∧p = .sc (.slice none 0 0))∨∃ id,b≤id∧p = .own id 1 0 X.length false∧aL hp id=some ⟨.live,X.map qt⟩
theorem ah3.app {b:Nat}{hp:Θ}{X:List Rat}{p:PV}(h:ah3 b hp X p)(hb:b≤hp.length)(x:Rat)(h9:X.length≤1000):∃ p' hp' fp,cU hp 1 p 1 [qt x]=some (p',hp',fp)∧ah3 b hp' (X++[x]) p'∧(∀ i,i<b→aL hp' i=aL hp i)∧hp.length≤hp'.length:=by
 rcases h with ⟨rfl,rfl⟩| ⟨id,h1,rfl,h2⟩
 ·exact⟨.own hp.length 1 0 1 false,aO hp [qt x],⟨[],[hp.length],true,false⟩,by simp[cU,cS],.inr ⟨hp.length,hb,rfl,al1 _ _⟩,fun i hi=>by rw[bH,if_neg (by omega)],by simp[aO]⟩
 ·have hid:=ig h2
  have ht:bF (bp (X.map qt) 0) (X.length*1)=some (X.map qt):=by rw[cF,drop_zero,Nat.mul_one,dh (by simp),take_of_length_le (by simp)]
  have hm:X.length+1≤cS:=Nat.le_trans (Nat.succ_le_succ h9) (by decide)
  have hl:hp.length=(cg hp id ⟨.dead,[]⟩).length:=(bJ _ _ _).symm
  refine⟨.own hp.length 1 0 (X.length+1) false,aO (cg hp id ⟨.dead,[]⟩) (X.map qt++[qt x]),⟨[],[id,hp.length],true,false⟩,?_,.inr ⟨hp.length,hb,by simp,?_⟩,fun i hi => ?_,by simp[aO,bJ]⟩
  ·simp only[cU,h2]
   rw[if_neg (by simp),ht]
   simp only
   rw[if_pos hm]
  ·rw[hl,map_append];exact al1 _ _
  ·rw[bH,if_neg (by rw[← hl];omega),jQ h2 (by omega)]
def qP (X:List P2):PV:=qC (X.map fun p=>[p.1,p.2])
def at2 (X:List P2)(i:Nat):P2:=X.getD i (0,0)
theorem fK {X:List P2}{i:Nat}(h:i<X.length):at2 X i=X[i]:=by simp[at2,h]
theorem LW {t:Nat}(hu:und TT t=some (.slice 39))(X:List P2)(i:Nat)(hi:i<X.length):∃ r,bd TT t (qP X) (.sc (.int .i64 (i:Int)))=some (.iptr r)∧r.head?=some (q2 (at2 X i)):=by
 obtain⟨r,a,b⟩:=jH hu ((X.map fun p=>[p.1,p.2]).map fun P=>P.map qb) i (by simpa using hi)
 refine⟨r,a,?_⟩
 rw[b,getElem_map,getElem_map,fK hi]
 rfl
theorem agV (X:List P2):cX (qP X)=some X.length:=by
 unfold qP qC
 rw[eG];simp
def afm (x y z:Int):Bool:=(x == y) && (y == z) && (x != 0)
def akS (X:List P2)(p:P2)(i j n:Nat):Bool:=afm (iE (at2 X i) (at2 X j) p) (iE (at2 X j) (at2 X n) p) (iE (at2 X n) (at2 X i) p)
def akQ (X:List P2)(p:P2)(i j:Nat):Prop:=ahV (at2 X i) (at2 X j) p=true∨∃ n,j<n∧n<X.length∧akS X p i j n=true
def aio (X:List P2)(p:P2):Prop:=∃ i j,i≤j∧j<X.length∧akQ X p i j
def Jf (X:List P2)(p:P2):Bool:=pB (aio X p)
theorem Kz:base.F.get 71=some f71:=by kernel_rfl
theorem So:base.shared 71=false:=by kernel_rfl
def yf (c:List (List ByteArray))(e:Nat):Nat:=if e=0 then (match c with | []=>0 | p::_=>if p.length=2 then 0 else 10) else e
theorem PK(c:List (List ByteArray))(e:Nat) :
  (az L run 22 [cE c] (iv e)→∃ st,ae (CC L) run k (f73.body.getD .skip) ⟨entry 19 [cE c],[],[]⟩=some (.ret,st)∧aX TT st.fr st.hp f73.results.toList=some [iv (yf c e)]) ∧
  (az L run 80 [cE c] (iv e)→∃ st,ae (CC L) run k (f71.body.getD .skip) ⟨entry 19 [cE c],[],[]⟩=some (.ret,st)∧aX TT st.fr st.hp f71.results.toList=some [iv (yf c e)]):=by
 obtain⟨e1,e2⟩:=cO 18 (cE c)
 unfold az iv yf
 by_cases he:e=0
 ·subst he
  cases c with
  | nil =>
   have hl:cX (cE [])=some 0:=eG []
   generalize entry 19 [cE []]=fr0 at *
   generalize cE []=C at *
   constructor <;> intro g <;> simp[f73,f71,aC,bL,aa,af,ab,bc,e1,e2,g,hl,uCl,aX]
  | cons p c =>
   obtain⟨r,x1,x2⟩:=jH uCl (p::c) 0 (by simp)
   rw[getElem_cons_zero] at x2
   have hl:cX (cE (p::c))=some (c.length+1):=eG _
   have h0:0<c.length+1:=by omega
   replace x1:bd TT 23 (cE (p::c)) (.sc (.int .i64 0))=some (.iptr r):=x1
   generalize entry 19 [cE (p::c)]=fr0 at *
   generalize cE (p::c)=C at *
   generalize c.length+1=n at *
   have hp:=eF p
   obtain⟨b,hb⟩:∃ b,(((p.length:Nat):Int) != 2)=b:=⟨_,rfl⟩
   have hb':b = !decide (p.length=2):=by
    rw[← hb]
    by_cases h:p.length=2
    ·simp[h]
    ·rw[decide_eq_false h]
     have:((p.length:Nat):Int)≠2:=by omega
     simpa using this
   generalize pE p=P at *
   dsimp only
   cases hd:decide (p.length=2) with
   | true =>
    rw[hd] at hb'
    have h2:=of_decide_eq_true hd
    generalize p.length=m at *
    subst hb'
    constructor <;> intro g <;> simp[f73,f71,aC,bL,partOf,aa,af,ab,bc,e1,e2,g,hl,x1,x2,hp,h0,h2,uCl,uPt,aPt,sPt,aU,number,aX]
   | false =>
    rw[hd] at hb'
    have h2:=of_decide_eq_false hd
    generalize p.length=m at *
    subst hb'
    constructor <;> intro g <;> simp[f73,f71,aC,bL,partOf,aa,af,ab,bc,e1,e2,g,hl,x1,x2,hp,h0,hb,h2,uCl,uPt,aPt,sPt,aU,number,aX]
 ·have hb:(((e:Nat):Int) != 0)=true:=by simpa using he
  generalize entry 19 [cE c]=fr0 at *
  generalize cE c=C at *
  constructor <;> intro g <;> simp[f73,f71,aC,aa,af,ab,e1,e2,g,he,hb,aX]
def fO (c:List (List ByteArray)):Nat:=yf c (chk c)
def Mp:Ψ→Option Ψ:=ctr (fun c=>[cE c]) Fit fun c=>[iv (fO c)]
def LZe:Lst:=[(22,Cy),(80,Cy)]
theorem ah8:dE base.P LZe:=⟨sX,FY,trivial⟩
theorem A3:Ab.Spec base.P 71 Mp:=Ab.Spec.bS (C:=CC LZe) (cR ah8) fun args rs h=>by
 obtain⟨c,hF,rfl,rfl⟩:=db h
 obtain⟨st,c1,c2⟩:=(PK LZe (runK (CC LZe) 20) 20 c (chk c)).2 (Y9 rfl _ c hF)
 exact⟨_,_,_,_,_,_,ba Kz rfl c1 c2,rfl,Wk.refl rfl,trivial⟩
theorem J1 {L:Lst}(hL:bx L 71=fun a=>Mp (aK a))(run:aw)(c:List (List ByteArray))(hF:Fit c):az L run 71 [cE c] (iv (fO c)) :=
 ji So (e:=fun c=>[cE c]) (f:=fun c=>[iv (fO c)]) hL (fun x y _ _ h=>by rw[ll h]) run c hF (fun _=>rfl) (by simp only[aK,iY])
theorem Kw:base.F.get 130=some f130:=by kernel_rfl
theorem Sj:base.shared 130=false:=by kernel_rfl
theorem aeS (x:Bool)(a b:Rat):∃ r s,bd TT 84 (dz x [a,b]) (.sc (.int .i64 0))=some (.iptr r)∧bF r 4=some (rcs a)∧bd TT 84 (dz x [a,b]) (.sc (.int .i64 1))=some (.iptr s)∧bF s 4=some (rcs b):=by
 obtain⟨r,a1,a2⟩:=jT x [a,b] 0 (by simp)
 obtain⟨s,b1,b2⟩:=jT x [a,b] 1 (by simp)
 exact⟨r,s,a1,a2,b1,b2⟩
theorem abq(A B P:PV)(u0 u1 v0 v1:Rat)(x y:PV)(s:Int)(g1:az L run 60 [B,A] (dz true [u0,u1]))(g2:az L run 60 [P,A] (dz true [v0,v1]))(g3:az L run 56 [.agg (rcs u0),.agg (rcs v1)] x)(g4:az L run 56 [.agg (rcs u1),.agg (rcs v0)] y)(g5:az L run 129 [x,y] (Ab.bN s)) :
  ∃ st,ae (CC L) run k (f130.body.getD .skip) ⟨entry 30 [A,B,P],[],[]⟩=some (.ret,st)∧aX TT st.fr st.hp f130.results.toList=some [Ab.bN s]:=by
 obtain⟨e1,e2,e3,e4⟩:=yh 27 A B P
 generalize entry 30 [A,B,P]=fr0 at *
 obtain⟨r1,r2,a1,a2,a3,a4⟩:=aeS true u0 u1
 obtain⟨q1,q2,b1,b2,b3,b4⟩:=aeS true v0 v1
 unfold az at *
 generalize dz true [u0,u1]=U at *
 generalize dz true [v0,v1]=V at *
 simp[f130,aC,partOf,aa,af,ab,bc,e1,e2,e3,e4,a1,a2,a3,a4,b1,b2,b3,b4,g1,g2,g3,g4,g5,aR,sR,aU,number,FP.free,aX]
def v2 (x:Bool)(p:P2):PV:=dz x [p.1,p.2]
def e3v (p:P23):Ψ:=[v2 false p.1,v2 false p.2.1,v2 false p.2.2]
theorem BV {k:Nat}{p:P2}(h:Rb2 k p):RbL k [p.1,p.2]:=fun z hz=>by
 simp only[mem_cons,not_mem_nil,or_false] at hz
 rcases hz with rfl | rfl
 ·exact h.1
 ·exact h.2
theorem Bz {p q:P2}(hp:Rb2 1000 p)(hq:Rb2 1000 q)(h:v2 false p=v2 false q):p=q:=by
 have:=Bx (BV hp) (BV hq) (by omega) h
 simp only[List.cons.injEq,and_true] at this
 exact Prod.ext this.1 this.2
def LZg:Lst:=[(60,Lr),(56,kR),(129,lU)]
theorem ah7:dE base.P LZg:=⟨Ax,oY,ki,trivial⟩
def abo:Ψ→Option Ψ:=ctr e3v (ak7 1000) fun p=>[Ab.bN (iE p.1 p.2.1 p.2.2)]
theorem Ey:Ab.Spec base.P 130 abo:=Ab.Spec.bS (C:=CC LZg) (cR ah7) fun args rs h=>by
 obtain⟨⟨a,b,p⟩,⟨ha,hb,hp⟩,rfl,rfl⟩:=db h
 dsimp only at ha hb hp
 obtain⟨st,c1,c2⟩:=abq LZg (runK (CC LZg) 200) 200 (v2 false a) (v2 false b) (v2 false p) (b.1 - a.1) (b.2 - a.2) (p.1 - a.1) (p.2 - a.2) _ _ _
  (J0 rfl _ false false [b.1,b.2] [a.1,a.2] (BV hb) (BV ha) (by omega) (by omega) rfl (by simp))
  (J0 rfl _ false false [p.1,p.2] [a.1,a.2] (BV hp) (BV ha) (by omega) (by omega) rfl (by simp))
  (Y7 rfl _ (u:=some (b.1 - a.1)) (v:=some (p.2 - a.2)) (hb.1.sub ha.1) (hp.2.sub ha.2) (by omega))
  (Y7 rfl _ (u:=some (b.2 - a.2)) (v:=some (p.1 - a.1)) (hb.2.sub ha.2) (hp.1.sub ha.1) (by omega))
  (CN rfl _ (u:=some ((b.1 - a.1)*(p.2 - a.2))) (v:=some ((b.2 - a.2)*(p.1 - a.1))) ((hb.1.sub ha.1).mul (hp.2.sub ha.2)) ((hb.2.sub ha.2).mul (hp.1.sub ha.1)) (by omega))
 exact⟨_,_,_,_,_,_,ba Kw rfl c1 c2,rfl,Wk.refl rfl,trivial⟩
theorem QZ:base.F.get 124=some f124:=by kernel_rfl
theorem aak:base.shared 124=false:=by kernel_rfl
theorem nI:de TT 102=some 2:=by kernel_rfl
theorem zp:fR TT 102=some true:=by kernel_rfl
theorem kK:und TT 100=some (.slice 102):=by kernel_rfl
theorem GN:dU TT 102=some [.sc (.slice none 0 0),.sc (.int .i64 0)]:=by kernel_rfl
theorem fa0 (id off:Nat):bM TT 102 (.ptr id off) 0=some (.ptr id off):=by
 have h:bM TT 102 (.ptr id off) 0=some (.ptr id (off+0)):=by kernel_rfl
 exact h
theorem fa1 (id off:Nat):bM TT 102 (.ptr id off) 1=some (.ptr id (off+1)):=by kernel_rfl
def eC (x:Bool)(z:VN):Ψ:=[v2 x z.1,iv z.2]
def bfC:Code:=f124.body.getD .skip
def bfB:Code:=(aA bfC).getD .skip
def BfF (fr:Ψ)(X:List Rat)(i:Nat):Prop:=fr.length=32∧nth fr 2 = .ptr 0 0∧nth fr 3 = .ptr 1 0∧nth fr 9=dz false X∧nth fr 10=iv 2∧nth fr 11=iv i
theorem Gj(X Y:List Rat)(m n i:Nat)(c:Int)(hi:i<X.length)(hi2:i<2)(hj:i<Y.length)(h:BfF fr X i)(hn:2≤hp.length)(hb0:aL hp 0=some ⟨.live,[dz false X,iv m]⟩)(hb1:aL hp 1=some ⟨.live,[dz false Y,iv n]⟩)(g:az L run 129 [rv (some X[i]),rv (some Y[i])] (.sc (.int .i64 c))) :
  ∃ fr' hp' wr',ae (CC L) run k bfB ⟨fr,hp,wr⟩=some (bif c != 0 then .ret else .normal,⟨fr',hp',wr'⟩)∧((c != 0)=true→nth fr' 4 = .sc (.int .i64 c))∧((c != 0)=false→BfF fr' X (i+1))∧2≤hp'.length∧aL hp' 0=some ⟨.live,[dz false X,iv m]⟩∧aL hp' 1=some ⟨.live,[dz false Y,iv n]⟩:=by
 unfold BfF at *
 obtain⟨h0,h2,h3,h9,h10,h11⟩:=h
 obtain⟨r,x1,x2⟩:=jT false X i hi
 obtain⟨r',y1,y2⟩:=jT false Y i hj
 have hw:=bD i (by omega)
 have hx:=al1 hp rz
 have hx1:=ee rz (rcs X[i]) (by rw[cB.len];rfl)
 have hx2:=al2 hp rz ⟨.live,rcs X[i]⟩
 have hx3:=(al3 hp rz ⟨.live,rcs X[i]⟩ 0 (by omega)).trans hb0
 have hx4:=(al3 hp rz ⟨.live,rcs X[i]⟩ 1 (by omega)).trans hb1
 have hx5:=dG (rcs X[i]) (cB.len _)
 have hx6:=al4 hp rz ⟨.live,rcs X[i]⟩
 have hokx:=cB.okc X[i]
 have hlx:=cB.len X[i]
 rw[jR,jR] at g
 unfold az at g
 have hc1:=Bg false X
 have hc2:=Bg false Y
 generalize rcs X[i]=cx at *
 generalize rcs Y[i]=cy at *
 generalize dz false X=PX at *
 generalize dz false Y=PY at *
 simp only[iv] at h10 h11
 have zR':=zRz
 have hi2':(i:Int)<2:=by omega
 obtain⟨u,hu⟩:∃ u,(c != 0)=u:=⟨_,rfl⟩
 have hn1:2≤hp.length+1:=by omega
 cases u <;>
 simp[iv,bfB,bfC,f124,aC,partOf,aa,af,ab,bc,and_assoc,bm,h0,h2,h3,h9,h10,h11,x1,x2,y1,y2,g,hx,hx1,hx2,hx3,hx4,hx5,hx6,hokx,hlx,hw,hu,hi2',hn1,fa0,aU,aR,sR,YU,DI,zR',bp,number,FP.free,cw,FP.apart]
def Fr (n:Nat)(w:Ω):Prop:=∀ i ∈ w,n≤i
theorem Cq (n:Nat):Fr n []:=fun _ h=>by cases h
theorem po {n:Nat} : ∀ {l w:Ω},Fr n (aC l w) ↔ (∀ i ∈ l,n≤i)∧Fr n w
 | [],w=>by simp[aC]
 | i::l,w=>by
  unfold aC
  cases h:w.contains i with
  | true =>
   have h:i ∈ w:=by simpa using h
   rw[cond_true,po]
   simp only[mem_cons,forall_eq_or_imp]
   exact⟨fun ⟨a,b⟩=>⟨⟨b i h,a⟩,b⟩,fun ⟨⟨_,a⟩,b⟩=>⟨a,b⟩⟩
  | false =>
   rw[cond_false,po]
   unfold Fr
   simp only[mem_cons,forall_eq_or_imp]
   exact⟨fun ⟨a,b,c⟩=>⟨⟨b,a⟩,c⟩,fun ⟨⟨b,a⟩,c⟩=>⟨a,b,c⟩⟩
theorem Fr.old {n:Nat}{w:Ω}(h:Fr n w):ky n w=[]:=by
 cases e:ky n w with
 | nil=>rfl
 | cons i l =>
  have:=kA (n:=n) (l:=w) (i:=i) (by rw[e];simp)
  have:=h i this.1
  omega
theorem Fr.mono {n m:Nat}{w:Ω}(h:Fr n w)(hm:m≤n):Fr m w:=fun i hi=>Nat.le_trans hm (h i hi)
theorem qT {L:Lst}{run:aw}{g:Nat}{args:Ψ}{r:PV}{hp hp':Θ}{w:Ω}(hs:base.shared g=true)(hr:run g args hp=some ([r],hp',w))(hi:r.cH=true)(hg:Hgr hp hp')(hw:Fr hp.length w)(dr:Bool):bP (CC L) run dr hp g args=some (r,hp,⟨[],[],true,true⟩):=by
 have:=wG (L:=L) hs hr hi hg.1 hg.2 (by rw[hw.old];intro i h;cases h) dr
 rw[hw.old] at this
 exact this
theorem al5(a b:Ψ):aL (aO (aO hp a) b) hp.length=some ⟨.live,a⟩:=by
 rw[bH,if_neg (by simp[aO]),al1]
theorem Hgr.two(a b:Ψ):Hgr hp (aO (aO hp a) b):=(Hgr.new hp a).trans (Hgr.new _ b)
theorem aeY(a:Ψ):hp.length≤(aO hp a).length:=by simp[aO]
theorem GA:base.F.get 128=some f128:=by kernel_rfl
theorem Nw:base.shared 128=true:=by kernel_rfl
theorem Zb:base.F.get 127=some f127:=by kernel_rfl
theorem afr:base.shared 127=true:=by kernel_rfl
theorem Ky:base.F.get 126=some f126:=by kernel_rfl
theorem Sn:base.shared 126=true:=by kernel_rfl
theorem W9(x y:Rat)(c:Int)(g:az L run 129 [rv (some x),rv (some y)] (.sc (.int .i64 c))) :
  ∃ st,ae (CC L) run k (f128.body.getD .skip) ⟨entry 9 [rv (some x),rv (some y)],hp,[]⟩=some (.ret,st)∧Hgr hp st.hp∧Fr hp.length st.wr∧aX TT st.fr st.hp f128.results.toList=some [.sc (.bool (c == 0))]:=by
 rw[jR,jR] at *
 obtain⟨e1,e2,e3⟩:=cl 7 (.agg (rcs x)) (.agg (rcs y))
 generalize entry 9 [.agg (rcs x),.agg (rcs y)]=fr0 at *
 have b1:=al5 hp (rcs x) (rcs y)
 have b2:=al1 (aO hp (rcs x)) (rcs y)
 have b3:=Hgr.two hp (rcs x) (rcs y)
 have b4:=aeY hp (rcs x)
 have t1:=dG (rcs x) (cB.len _)
 have t2:=dG (rcs y) (cB.len _)
 unfold az at g
 generalize rcs x=cx at *
 generalize rcs y=cy at *
 simp[f128,partOf,aa,af,ab,bc,bm,dJ,e1,e2,e3,b1,b2,b3,b4,t1,t2,g,po,Cq,aU,bp,aR,sR,aX]
theorem Xt (L:Lst)(k:Nat)(x y:Rat)(c:Int)(g:az L (runK (CC L) k) 129 [rv (some x),rv (some y)] (.sc (.int .i64 c)))(dr:Bool)(hp:Θ):bP (CC L) (runK (CC L) (k+1)) dr hp 128 [rv (some x),rv (some y)]=some (.sc (.bool (c == 0)),hp,⟨[],[],true,true⟩):=by
 obtain⟨st,x1,x2,x3,x4⟩:=W9 L (runK (CC L) k) k hp x y c g
 exact qT Nw (ez GA rfl x1 x4) rfl x2 x3 dr
def eqC:Code:=f127.body.getD .skip
def eqB:Code:=(aA eqC).getD .skip
def EqF (fr:Ψ)(f1 f2:Bool)(X Y:List Rat)(i:Nat):Prop:=fr.length=32∧nth fr 1=dz f2 Y∧nth fr 2 = .sc (.func (.func 128) ⟨[]⟩ ⟨[]⟩)∧nth fr 15=dz f1 X∧nth fr 16=iv 2∧nth fr 17=iv i
theorem FH(f1 f2:Bool)(X Y:List Rat)(i n:Nat)(u:Bool)(hi:i<X.length)(hi2:i<2)(hj:i<Y.length)(h:EqF fr f1 f2 X Y i)(hn:n≤hp.length)(hw:Fr n wr)(g:∀ dr hp,bP (CC L) run dr hp 128 [rv (some X[i]),rv (some Y[i])]=some (.sc (.bool u),hp,⟨[],[],true,true⟩)) :
  ∃ fr' hp' wr',ae (CC L) run k eqB ⟨fr,hp,wr⟩=some (bif u then .normal else .ret,⟨fr',hp',wr'⟩)∧(u=false→nth fr' 6 = .sc (.bool false))∧(u=true→EqF fr' f1 f2 X Y (i+1))∧Hgr hp hp'∧Fr n wr':=by
 unfold EqF at *
 obtain⟨h0,h1,h2,h15,h16,h17⟩:=h
 obtain⟨r,x1,x2⟩:=jT f1 X i hi
 obtain⟨r',y1,y2⟩:=jT f2 Y i hj
 have hwr:=bD i (by omega)
 have a1:=al1 hp rz
 have o1:=ee rz (rcs X[i]) (by rw[cB.len];rfl)
 have o2:=ee rz (rcs Y[i]) (by rw[cB.len];rfl)
 have G1:=Hgr.acp hp rz ⟨.live,rcs X[i]⟩
 have c1:=al2 hp rz ⟨.live,rcs X[i]⟩
 have l1:=al4 hp rz ⟨.live,rcs X[i]⟩
 obtain⟨hp1,e1⟩:∃ h,cg (aO hp rz) hp.length ⟨.live,rcs X[i]⟩=h:=⟨_,rfl⟩
 rw[e1] at G1 c1 l1
 have a2:=al1 hp1 rz
 have G2:=Hgr.acp hp1 rz ⟨.live,rcs Y[i]⟩
 have c2:=al2 hp1 rz ⟨.live,rcs Y[i]⟩
 obtain⟨hp2,e2⟩:∃ h,cg (aO hp1 rz) hp1.length ⟨.live,rcs Y[i]⟩=h:=⟨_,rfl⟩
 rw[e2] at G2 c2
 have c3:=(G2.2 hp.length (by omega)).trans c1
 have G3:=G1.trans G2
 have n1:n≤hp1.length:=by omega
 have t1:=dG (rcs X[i]) (cB.len _)
 have t2:=dG (rcs Y[i]) (cB.len _)
 have ok1:=cB.okc X[i]
 have k1:=cB.len X[i]
 have ok2:=cB.okc Y[i]
 have k2:=cB.len Y[i]
 rw[jR,jR] at g
 generalize rcs X[i]=cx at *
 generalize rcs Y[i]=cy at *
 generalize dz f1 X=PX at *
 generalize dz f2 Y=PY at *
 simp only[iv] at h16 h17
 have zR':=zRz
 have hi2':(i:Int)<2:=by omega
 have hl : ¬ hp1.length=hp.length:=by omega
 cases u <;>
 simp[iv,eqB,eqC,f127,partOf,unP,aa,af,ab,bc,and_assoc,bm,dJ,h0,h1,h2,h15,h16,h17,x1,x2,y1,y2,g,a1,a2,o1,o2,e1,e2,c2,c3,G3,n1,hn,hw,t1,t2,ok1,ok2,k1,k2,hi2',hwr,po,aU,bp,aR,sR,zR']
theorem Q6:base.F.get 171=some f171:=by kernel_rfl
theorem aao:base.shared 171=true:=by kernel_rfl
theorem Cs (x:Bool):El 2 (eC x) where
 len:=fun _=>rfl
 okc:=fun _=>rfl
 idf:=fun _=>rfl
 sn:=fun _ _ _=>rfl
def Hx (hp hp':Θ)(id:Nat):Prop:=hp'.length=hp.length∧∀ i,i≠id→aL hp' i=aL hp i
theorem Hx.refl(id:Nat):Hx hp hp id:=⟨rfl,fun _ _=>rfl⟩
theorem Hx.trans {a b c:Θ}{id:Nat}(h:Hx a b id)(h':Hx b c id):Hx a c id:=⟨h'.1.trans h.1,fun i hi=>(h'.2 i hi).trans (h.2 i hi)⟩
theorem Hx.set {hp:Θ}{id:Nat}{b0:Blk}(h:aL hp id=some b0)(b:Blk):Hx hp (cg hp id b) id:=⟨bJ ..,fun i hi=>by rw[cI h,if_neg hi]⟩
theorem sN {hp:Θ}{id:Nat}{b0:Blk}(h:aL hp id=some b0)(b:Blk):aL (cg hp id b) id=some b:=by rw[cI h,if_pos rfl]
def cells (E:List VN)(rest:Ψ):Ψ:=E.flatMap (eC true)++rest
theorem kH (E:List VN)(rest:Ψ)(j:Nat)(hj:j<E.length):bF (bp (cells E rest) (j*2)) 2=some (eC true E[j]):=by
 unfold cells
 have h1:=(Cs true).length E
 have h2:bp (E.flatMap (eC true)++rest) (j*2)=bp (E.flatMap (eC true)) (j*2)++rest:=by
  rw[cF,cF,drop_append_of_le_length (by omega)]
 rw[h2,mZ (Cs true) E j hj,append_assoc,dh (by simp[(Cs true).len])]
 simp[(Cs true).len]
theorem IC {rest:Ψ} : ∀ {l:Ψ} {n:Nat} {v r:Ψ},ca l n v=some r→ca (l++rest) n v=some (r++rest)
 | l,0,[],r,h=>by
  have:r=l:=by cases l <;> simpa [ca] using h.symm
  subst this
  cases h:(r++rest) <;> rfl
 | [],0,_::_,r,h=>by cases h
 | a::l,0,v::vs,r,h=>by
  rw[ca] at h
  cases h1:ca l 0 vs with
  | none=>rw[h1] at h;cases h
  | some q =>
   rw[h1] at h
   obtain rfl:v::q=r:=by simpa using h
   rw[cons_append,ca,IC h1];rfl
 | [],n+1,_,r,h=>by cases h
 | a::l,n+1,vs,r,h=>by
  rw[ca] at h
  cases h1:ca l n vs with
  | none=>rw[h1] at h;cases h
  | some q =>
   rw[h1] at h
   obtain rfl:a::q=r:=by simpa using h
   rw[cons_append,ca,IC h1];rfl
theorem Gf (E:List VN)(rest:Ψ)(j:Nat)(y:VN)(hj:j<E.length):ca (cells E rest) (j*2) (eC true y)=some (cells (E.set j y) rest) :=
 IC (af6 (Cs true) E j y hj)
theorem rI (id n j:Nat)(x:Bool)(hj:j<n):bd TT 100 (.own id 2 0 n x) (.sc (.int .i64 (j:Int)))=some (.ptr id (j*2)):=by
 simp only[bd,kK,bn,nI,hj,and_self,if_true,Nat.zero_add]
def rH:Code:=f171.body.getD .skip
def kL:Code:=(aA rH).getD .skip
def nJ:Code:=(aA kL).getD .skip
def JsF (fr:Ψ)(id n:Nat)(x:Bool)(j:Nat):Prop:=fr.length=53∧nth fr 0 = .own id 2 0 n x∧nth fr 1 = .sc (.int .i64 0)∧nth fr 3 = .sc (.func (.func 124) ⟨[]⟩ ⟨[]⟩)∧nth fr 9=iv j
theorem agZ(id n:Nat)(x:Bool)(h:JsF fr id n x 0) :
  ∃ fr' wr',ae (CC L) run k nJ ⟨fr,hp,wr⟩=some (.exit 2,⟨fr',hp,wr'⟩):=by
 obtain⟨h0,h00,h1,h3,h9⟩:=h
 simp only[iv] at h9
 simp[nJ,kL,rH,f171,aC,aa,af,ab,h0,h1,h9,undef,number,FP.free]
def jsS:Code:=blk (seq1 (aQ nJ))
theorem ajS:((Region.before (gG jsS))[15]?.getD 0).testBit 9=true:=by kernel_rfl
theorem ajR:((Region.before (gG jsS))[15]?.getD 0).testBit 13=true:=by kernel_rfl
theorem ajQ:((Region.before (gG jsS))[17]?.getD 0).testBit 9=true:=by kernel_rfl
theorem ajP:((Region.before (gG jsS))[17]?.getD 0).testBit 13=true:=by kernel_rfl
theorem ajO:((Region.before (gG jsS))[17]?.getD 0).testBit 15=true:=by kernel_rfl
theorem acY(id n:Nat)(x:Bool)(j i:Nat)(E:List VN)(rest:Ψ)(hji:j=i+1)(hj:j<n)(hn:E.length=n)(h9':n<1000)(h:JsF fr id n x j)(hb:aL hp id=some ⟨.live,cells E rest⟩) :
  ∃ fr' hp' wr',ae (CC L) run k jsS ⟨fr,hp,wr⟩=some (.normal,⟨fr',hp',wr'⟩)∧Hx hp hp' id∧aL hp' id=some ⟨.live,cells ((E.set j (E[i]'(by omega))).set i (E[j]'(by omega))) rest⟩:=by
 obtain⟨h0,h00,h1,h3,h9⟩:=h
 have q1:=kH E rest j (by omega)
 have q2:=kH E rest i (by omega)
 have o1:=Gf E rest j (E[i]'(by omega)) (by omega)
 have o2:=Gf (E.set j (E[i]'(by omega))) rest i (E[j]'(by omega)) (by simp;omega)
 have l1:(eC true (E[i]'(by omega))).length=2:=rfl
 have l2:(eC true (E[j]'(by omega))).length=2:=rfl
 have k1:bg (eC true (E[i]'(by omega)))=true:=rfl
 have k2:bg (eC true (E[j]'(by omega)))=true:=rfl
 have x1:=rI id n j x hj
 have x2:=rI id n i x (by omega)
 have w1:bA .i64 ((j:Int) - 1)=(i:Int):=by
  simpa using jx .i64 j 1 i (by omega) (hiI (by omega))
 have n1:=sN hb ⟨.live,cells (E.set j (E[i]'(by omega))) rest⟩
 have H1:=Hx.set hb ⟨.live,cells (E.set j (E[i]'(by omega))) rest⟩
 obtain⟨hp1,e1⟩:∃ h,cg hp id ⟨.live,cells (E.set j (E[i]'(by omega))) rest⟩=h:=⟨_,rfl⟩
 rw[e1] at n1 H1
 have n2:=sN n1 ⟨.live,cells ((E.set j (E[i]'(by omega))).set i (E[j]'(by omega))) rest⟩
 have H2:=H1.trans (Hx.set n1 ⟨.live,cells ((E.set j (E[i]'(by omega))).set i (E[j]'(by omega))) rest⟩)
 generalize cells ((E.set j (E[i]'(by omega))).set i (E[j]'(by omega))) rest=cs2 at *
 generalize cells (E.set j (E[i]'(by omega))) rest=cs1 at *
 generalize eC true (E[i]'(by omega))=ci at *
 generalize eC true (E[j]'(by omega))=cj at *
 simp only[iv] at h9
 have hb1:=ajS
 have hb2:=ajR
 have hb3:=ajQ
 have hb4:=ajP
 have hb5:=ajO
 simp[-Nat.testBit_zero,jsS,nJ,kL,rH,f171,seq1,aQ,blk,gG] at hb1 hb2 hb3 hb4 hb5
 simp[-Nat.testBit_zero,jsS,nJ,kL,rH,f171,seq1,aQ,blk,aC,partOf,aa,af,ab,bc,and_assoc,bm,hb1,hb2,hb3,hb4,hb5,h0,h00,h9,x1,x2,w1,hb,q1,q2,o1,o2,l1,l2,k1,k2,e1,n1,n2,H2,zp,nI,aU,undef,number,FP.free,cw,FP.apart]
theorem acZ(id n:Nat)(x:Bool)(j i:Nat)(E:List VN)(rest:Ψ)(c:Int)(hji:j=i+1)(hj:j<n)(hn:E.length=n)(h9':n<1000)(h:JsF fr id n x j)(hb:aL hp id=some ⟨.live,cells E rest⟩)(g:az L run 124 [.agg (eC true (E[j]'(by omega))),.agg (eC true (E[i]'(by omega)))] (.sc (.int .i64 c))) :
  ∃ fr' wr',ae (CC L) run k (seq1 nJ) ⟨fr,hp,wr⟩=some (bif decide (c<0) then .normal else .exit 2,⟨fr',hp,wr'⟩):=by
 obtain⟨h0,h00,h1,h3,h9⟩:=h
 have q1:=kH E rest j (by omega)
 have q2:=kH E rest i (by omega)
 have x1:=rI id n j x hj
 have x2:=rI id n i x (by omega)
 have w1:bA .i64 ((j:Int) - 1)=(i:Int):=by
  simpa using jx .i64 j 1 i (by omega) (hiI (by omega))
 have hj0:0<j:=by omega
 unfold az at g
 generalize eC true (E[i]'(by omega))=ci at *
 generalize eC true (E[j]'(by omega))=cj at *
 simp only[iv] at h9
 obtain⟨u,hu⟩:∃ u,decide (c<0)=u:=⟨_,rfl⟩
 rw[hu]
 cases u <;> simp[nJ,kL,rH,f171,seq1,aC,partOf,aa,af,ab,bc,h0,h00,h1,h3,h9,hj0,x1,x2,w1,hb,q1,q2,g,hu,zp,nI,aU,number,FP.free,cw,FP.apart]
theorem ag0(j i:Nat)(hji:j=i+1)(h9':j<1000)(h0:fr.length=53)(h9:nth fr 9=iv j) :
  ∃ fr',ae (CC L) run k (aQ (aQ nJ)) ⟨fr,hp,wr⟩=some (.normal,⟨fr',hp,wr⟩)∧nth fr' 9=iv i:=by
 have w1:bA .i64 ((j:Int) - 1)=(i:Int):=by
  simpa using jx .i64 j 1 i (by omega) (hiI (by omega))
 simp only[iv] at h9
 simp[iv,nJ,kL,rH,f171,aQ,aC,aa,ab,h0,h9,w1]
theorem aeR:nJ = .seq (seq1 nJ) (.seq (.block 3 jsS) (aQ (aQ nJ))):=rfl
theorem afn {α:Type}(A:List α)(a x:α)(T:List α):((A++a::x::T).set (A.length+1) a).set A.length x=A++x::a::T:=by
 simp[]
theorem yE {L:Lst}{k:Nat}{g:FuncId}{args:Ψ}{hp:Θ}{fn:Func}{c:Code}{st:St}{rs:Ψ}(hF:base.F.get g=some fn)(hb:fn.body=some c)(hx:ae (CC L) (runK (CC L) k) k c ⟨entry fn.ntmps args,hp,[]⟩=some (.normal,st))(hr:aX TT st.fr st.hp fn.results.toList=some rs):runK (CC L) (k+1) g args hp=some (rs,st.hp,st.wr):=by
 have h1:(CC L).F g=some fn:=hF
 simp only[runK,aeF,sk,h1,hb,hx]
 rw[bc,hr]
structure Bef (L:Lst) (run:aw) (ok:VN→Prop) (bI:VN→VN→Int):Prop where
 g:∀ a b,ok a→ok b→az L run 124 [.agg (eC true a),.agg (eC true b)] (.sc (.int .i64 (bI a b)))
 lt:∀ a b,bI a b<0 ↔ lxn a b
theorem LV {L:Lst}{run:aw}{k:Nat}{ok:VN→Prop}{bI:VN→VN→Int}(hB:Bef L run ok bI){id n:Nat}{x:Bool}{rest:Ψ}(h9:n<1000)(x0:VN)(R:List VN):∀ (j:Nat) (A B:List VN) (fr:Ψ) (hp:Θ) (wr:Ω),A.length=j→JsF fr id n x j→(A++x0::(B++R)).length=n→aL hp id=some ⟨.live,cells (A++x0::(B++R)) rest⟩→(A++B).Pairwise leN→(∀ b ∈ B,leN x0 b)→(∀ z ∈ A++x0::(B++R),ok z) →
  ∃ fr' hp' wr' D,cb (ae (CC L) run k nJ) (j+1) ⟨fr,hp,wr⟩=some (.exit 2,⟨fr',hp',wr'⟩)∧Hx hp hp' id∧aL hp' id=some ⟨.live,cells (D++R) rest⟩∧D.Perm (A++x0::B)∧D.Pairwise leN∧eL (dp nJ) fr fr'
 | 0,A,B,fr,hp,wr,hA,hF,hn,hb,hp1,hp2,hok=>by
  obtain rfl:A=[]:=length_eq_zero_iff.1 hA
  obtain⟨fr',wr',q1⟩:=agZ L run k fr hp wr id n x hF
  exact⟨fr',hp,wr',x0::B,bu q1,Hx.refl _ _,hb,.refl _,pairwise_cons.2 ⟨hp2,hp1⟩,bj _ q1⟩
 | j+1,A,B,fr,hp,wr,hA,hF,hn,hb,hp1,hp2,hok=>by
  obtain⟨A',a,rfl⟩:∃ A' a,A=A'++[a]:=⟨A.dropLast,A.getLast (fun e=>by rw[e] at hA;simp at hA),(dropLast_concat_getLast _).symm⟩
  have hA':A'.length=j:=by simpa using hA
  subst hA'
  have eE:A'++[a]++x0::(B++R)=A'++a::x0::(B++R):=by simp
  rw[eE] at hn hb hok
  have hj:A'.length+1<n:=by rw[← hn];simp only[length_append,length_cons];omega
  have e1:(A'++a::x0::(B++R))[A'.length+1]'(by rw[hn];exact hj)=x0:=by
   rw[getElem_append_right (by omega)];simp
  have e2:(A'++a::x0::(B++R))[A'.length]'(by rw[hn];omega)=a:=by
   rw[getElem_append_right (by omega)];simp
  have g:=hB.g x0 a (hok _ (by simp)) (hok _ (by simp))
  obtain⟨fr1,wr1,c1⟩:=acZ L run k fr hp wr id n x (A'.length+1) A'.length _ rest (bI x0 a) rfl hj hn h9 hF hb (by rw[e1,e2];exact g)
  have K1:=bj _ c1
  have hF1:JsF fr1 id n x (A'.length+1):=⟨K1.len hF.1,K1.at hF.2.1,K1.at hF.2.2.1,K1.at hF.2.2.2.1,K1.at hF.2.2.2.2⟩
  by_cases hlt:bI x0 a<0
  ·rw[decide_eq_true hlt,cond_true] at c1
   obtain⟨fr2,hp2',wr2,d1,d2,d3⟩:=acY L run k fr1 hp wr1 id n x (A'.length+1) A'.length _ rest rfl hj hn h9 hF1 hb
   rw[e1,e2,afn] at d3
   have K2:=bj _ d1
   obtain⟨fr3,f1,f2⟩:=ag0 L run k fr2 hp2' wr2 (A'.length+1) A'.length rfl (by omega) (K2.len hF1.1) (K2.at hF1.2.2.2.2)
   have K3:=bj _ f1
   have hr:ae (CC L) run k nJ ⟨fr,hp,wr⟩=some (.normal,⟨fr3,hp2',wr2⟩):=by
    have d1':ae (CC L) run k (.block 3 jsS) ⟨fr1,hp,wr1⟩=some (.normal,⟨fr2,hp2',wr2⟩):=by simp only[ae,d1]
    rw[aeR,ar c1,ar d1',f1]
   have K:=bj _ hr
   have hlx:=(hB.lt x0 a).1 hlt
   have ha:∀ b ∈ B,leN a b:=fun b hb'=>(pairwise_append.1 hp1).2.2 a (by simp) b hb'
   obtain⟨fr',hp',wr',D,r1,r2,r3,r4,r5,r6⟩:=LV hB h9 x0 R A'.length A' (a::B) fr3 hp2' wr2 rfl
    ⟨K.len hF.1,K.at hF.2.1,K.at hF.2.2.1,K.at hF.2.2.2.1,f2⟩
    (by rw[← hn];simp) (by rw[cons_append];exact d3) (by simpa using hp1)
    (fun b hb'=>by
     rcases mem_cons.1 hb' with rfl | hb'
     ·exact Wp hlx
     ·exact AO (Wp hlx) (ha b hb'))
    (fun z hz=>hok z (by simp at hz ⊢;grind))
   refine⟨fr',hp',wr',D,by rw[bT hr];exact r1,d2.trans r2,r3,r4.trans ?_,r5,K.trans r6⟩
   rw[append_assoc]
   exact List.Perm.append_left _ (List.Perm.swap ..)
  ·rw[decide_eq_false hlt,cond_false] at c1
   have hr:ae (CC L) run k nJ ⟨fr,hp,wr⟩=some (.exit 2,⟨fr1,hp,wr1⟩):=by
    rw[aeR,ae,c1]
   have hle:leN a x0:=fun h=>hlt ((hB.lt x0 a).2 h)
   refine⟨fr1,hp,wr1,A'++[a]++x0::B,bu hr,Hx.refl _ _,by rw[hb];simp,.refl _,?_,bj _ hr⟩
   obtain⟨p1,p2,p3⟩:=pairwise_append.1 hp1
   refine pairwise_append.2 ⟨p1,pairwise_cons.2 ⟨hp2,p2⟩,fun y hy z hz => ?_⟩
   have hya:leN y x0:=by
    rcases mem_append.1 hy with h | h
    ·exact AO ((pairwise_append.1 p1).2.2 y h a (by simp)) hle
    ·obtain rfl:y=a:=by simpa using h
     exact hle
   rcases mem_cons.1 hz with rfl | hz
   ·exact hya
   ·exact p3 y hy z hz
def ac0:Code:=seq1 (blk (seq1 (aQ kL)))
theorem Jc:kL = .seq (seq1 kL) (.seq (.block 1 (.seq ac0 (.block 2 (.loop nJ)))) (aQ (aQ kL))):=rfl
theorem Ww(i n:Nat)(h0:fr.length=53)(h2:nth fr 2=iv n)(h8:nth fr 8=iv i) :
  ∃ fr',ae (CC L) run k (seq1 kL) ⟨fr,hp,wr⟩=some (bif decide (i<n) then .normal else .exit 0,⟨fr',hp,wr⟩):=by
 simp only[iv] at h2 h8
 obtain⟨u,hu⟩:∃ u,decide (i<n)=u:=⟨_,rfl⟩
 rw[hu]
 have hu':decide ((i:Int)<(n:Int))=u:=by rw[← hu];exact decide_eq_decide.2 Int.ofNat_lt
 cases u <;> simp only[decide_eq_true_eq,decide_eq_false_iff_not] at hu hu' <;> simp[kL,rH,f171,seq1,aC,aa,af,ab,h0,h2,h8,hu']
theorem ajT(i:Nat)(h0:fr.length=53)(h8:nth fr 8=iv i) :
  ∃ fr',ae (CC L) run k ac0 ⟨fr,hp,wr⟩=some (.normal,⟨fr',hp,wr⟩)∧nth fr' 9=iv i:=by
 simp only[iv] at h8
 simp[ac0,iv,kL,rH,f171,seq1,aQ,blk,aC,aa,ab,h0,h8]
theorem ajU(i:Nat)(h9:i<1000)(h0:fr.length=53)(h8:nth fr 8=iv i) :
  ∃ fr',ae (CC L) run k (aQ (aQ kL)) ⟨fr,hp,wr⟩=some (.normal,⟨fr',hp,wr⟩)∧nth fr' 8=iv (i+1):=by
 have hw:=bD i (by omega)
 simp only[iv] at h8
 simp[iv,kL,rH,f171,aQ,aC,aa,ab,h0,h8,hw]
theorem agY (L:Lst)(run:aw)(k:Nat)(p f:PV)(n:Nat)(hp:Θ):∃ fr,ae (CC L) run k (seq1 rH) ⟨entry 53 [p,.sc (.int .i64 0),iv n,f],hp,[]⟩=some (.normal,⟨fr,hp,[]⟩)∧fr.length=53∧nth fr 0=p∧nth fr 1 = .sc (.int .i64 0)∧nth fr 2=iv n∧nth fr 3=f∧nth fr 8=iv 1:=by
 obtain⟨e1,e2,e3,e4,e5⟩:=Js 49 p (.sc (.int .i64 0)) (iv n) f
 generalize entry 53 [p,.sc (.int .i64 0),iv n,f]=fr0 at *
 have hw:=bD 0 (by omega)
 simp at hw
 generalize iv n=nn at *
 simp[iv,rH,f171,seq1,aC,aa,af,ab,e1,e2,e3,e4,e5,hw]
theorem ag1:rH = .seq (seq1 rH) (.block 0 (.loop kL)):=rfl
theorem agX {L:Lst}{k:Nat}{ok:VN→Prop}{bI:VN→VN→Int}(hB:Bef L (runK (CC L) k) ok bI){id:Nat}{x:Bool}{rest:Ψ}(E:List VN)(h9:E.length<1000)(hk:E.length<k)(p:PV)(hp:Θ)(hE:E=[]∨p = .own id 2 0 E.length x∧aL hp id=some ⟨.live,cells E rest⟩)(hok:∀ z ∈ E,ok z) :
  ∃ hp' wr D,runK (CC L) (k+1) 171 [p,.sc (.int .i64 0),iv E.length,.sc (.func (.func 124) ⟨[]⟩ ⟨[]⟩)] hp=some ([],hp',wr)∧Hx hp hp' id∧(E=[]∨aL hp' id=some ⟨.live,cells D rest⟩)∧D.Perm E∧D.Pairwise leN:=by
 obtain⟨fr,a1,a2,a3,a4,a5,a6,a7⟩:=agY L (runK (CC L) k) k p (.sc (.func (.func 124) ⟨[]⟩ ⟨[]⟩)) E.length hp
 have fin:∀ {st:St},ae (CC L) (runK (CC L) k) k (.block 0 (.loop kL)) ⟨fr,hp,[]⟩=some (.normal,st)→runK (CC L) (k+1) 171 [p,.sc (.int .i64 0),iv E.length,.sc (.func (.func 124) ⟨[]⟩ ⟨[]⟩)] hp=some ([],st.hp,st.wr):=fun {st} h=>by
  have hx:ae (CC L) (runK (CC L) k) k rH ⟨entry 53 [p,.sc (.int .i64 0),iv E.length,.sc (.func (.func 124) ⟨[]⟩ ⟨[]⟩)],hp,[]⟩=some (.normal,st):=by
   rw[ag1,ar a1,h]
  exact yE Q6 rfl hx rfl
 cases E with
 | nil =>
  obtain⟨fr1,b1⟩:=Ww L (runK (CC L) k) k fr hp [] 1 0 a2 a5 a7
  have b1:ae (CC L) (runK (CC L) k) k (seq1 kL) ⟨fr,hp,[]⟩=some (.exit 0,⟨fr1,hp,[]⟩):=b1
  have b2:ae (CC L) (runK (CC L) k) k kL ⟨fr,hp,[]⟩=some (.exit 0,⟨fr1,hp,[]⟩):=by rw[Jc,ae,b1]
  have b3:=bE (bK (bu (n:=0) b2) (show 0+1≤k by simp at hk;omega))
  exact⟨hp,[],[],fin b3,Hx.refl _ _,.inl rfl,.refl _,.nil⟩
 | cons e E' =>
  obtain⟨hpe,hb⟩:p = .own id 2 0 (e::E').length x∧aL hp id=some ⟨.live,cells (e::E') rest⟩:=by
   rcases hE with h | h
   ·cases h
   ·exact h
  generalize hn:(e::E').length=n at *
  obtain⟨st,b1,D,b2,b3,b4,b5⟩:=ow (C:=CC L) (run:=runK (CC L) k) (k:=k) (e:=0) (b:=kL) (n:=n - 1) (st:=⟨fr,hp,[]⟩)
   (Inv:=fun t st=>eL (dp kL) fr st.fr∧nth st.fr 8=iv (t+1)∧Hx hp st.hp id∧∃ D R,D.length=t+1∧aL st.hp id=some ⟨.live,cells (D++R) rest⟩∧(D++R).Perm (e::E')∧D.Pairwise leN)
   (Q:=fun st=>∃ D,Hx hp st.hp id∧aL st.hp id=some ⟨.live,cells D rest⟩∧D.Perm (e::E')∧D.Pairwise leN)
   (by omega)
   (fun t st ht ⟨iK,i8,iH,D,R,iD,ib,iP,iS⟩=>by
    obtain⟨fr0,hp0,wr0⟩:=st
    dsimp only at iK i8 iH ib
    have i0:=iK.len a2
    have hlen:(D++R).length=n:=by rw[iP.length_eq];exact hn
    cases R with
    | nil=>simp at hlen;omega
    | cons y R =>
     obtain⟨fr1,c1⟩:=Ww L (runK (CC L) k) k fr0 hp0 wr0 (t+1) n i0 (iK.at a5) i8
     rw[decide_eq_true (by omega),cond_true] at c1
     have K1:=bj _ c1
     obtain⟨fr2,d1,d2⟩:=ajT L (runK (CC L) k) k fr1 hp0 wr0 (t+1) (K1.len i0) (K1.at i8)
     have K2:=bj _ d1
     obtain⟨fr3,hp3,wr3,D',r1,r2,r3,r4,r5,r6⟩:=LV hB h9 y R (t+1) D [] fr2 hp0 wr0 iD
      ⟨K2.len (K1.len i0),by rw[← hpe];exact K2.at (K1.at (iK.at a3)),K2.at (K1.at (iK.at a4)),K2.at (K1.at (iK.at a6)),d2⟩ (by simpa using hlen) ib (by simpa using iS) (fun b hb=>by cases hb) (fun z hz=>hok z (iP.mem_iff.1 (by simpa using hz)))
     have l1:=bE (bK r1 (show t+1+1≤k by omega))
     have l2:ae (CC L) (runK (CC L) k) k (.block 1 (.seq ac0 (.block 2 (.loop nJ)))) ⟨fr1,hp0,wr0⟩=some (.normal,⟨fr3,hp3,wr3⟩):=by
      rw[ae,ar d1,l1]
     have K3:=bj _ l2
     obtain⟨fr4,m1,m2⟩:=ajU L (runK (CC L) k) k fr3 hp3 wr3 (t+1) (by omega) (K3.len (K1.len i0)) (K3.at (K1.at i8))
     have hr:ae (CC L) (runK (CC L) k) k kL ⟨fr0,hp0,wr0⟩=some (.normal,⟨fr4,hp3,wr3⟩):=by
      rw[Jc,ar c1,ar l2,m1]
     refine⟨_,hr,iK.trans (bj _ hr),m2,iH.trans r2,D',R,by rw[r4.length_eq];simp[iD],r3,?_,r5⟩
     refine List.Perm.trans (List.Perm.append_right R r4) ?_
     simpa using iP)
   (fun st ⟨iK,i8,iH,D,R,iD,ib,iP,iS⟩=>by
    obtain⟨fr0,hp0,wr0⟩:=st
    dsimp only at iK i8 iH ib
    have hlen:(D++R).length=n:=by rw[iP.length_eq];exact hn
    have hn1:1≤n:=by rw[← hn];simp
    have hR:R=[]:=length_eq_zero_iff.1 (by simp at hlen;omega)
    subst hR
    rw[append_nil] at ib iP
    obtain⟨fr1,c1⟩:=Ww L (runK (CC L) k) k fr0 hp0 wr0 (n - 1+1) n (iK.len a2) (iK.at a5) i8
    rw[decide_eq_false (by omega),cond_false] at c1
    exact⟨⟨fr1,hp0,wr0⟩,by rw[Jc,ae,c1],D,iH,ib,iP,iS⟩)
   ⟨eL.refl _ _,a7,Hx.refl _ _,[e],E',rfl,hb,.refl _,pairwise_singleton _ _⟩
  exact⟨st.hp,st.wr,D,fin b1,b2,.inr b3,b4,b5⟩
theorem aaq:base.shared 159=false:=by kernel_rfl
def ni (n:Nat):Nat:=[0,1,2,2,3,3,3,3,4,4,4,4,4].getD n 0
def Bm:Ψ→Option Ψ:=ctr (fun n:Nat=>[.sc (.int .u64 n)]) (fun n=>n≤12) fun n=>[iv (ni n)]
theorem Bk:Ab.Spec base.P 159 Bm:=Ab.Spec.bS (C:=CC []) (cR (L:=[]) trivial) fun args rs h=>by
 obtain⟨n,hn,rfl,rfl⟩:=db h
 have key:∀ n,n≤12→runK (CC []) 10 159 [.sc (.int .u64 (n:Nat))] []=some ([iv (ni n)],[],[]):=fun n hn=>by
  match n,hn with
  | 0,_=>exact (show runK (CC []) 10 159 [.sc (.int .u64 ((0:Nat):Int))] []=some ([iv (ni 0)],[],[]) by kernel_rfl)
  | 1,_=>exact (show runK (CC []) 10 159 [.sc (.int .u64 ((1:Nat):Int))] []=some ([iv (ni 1)],[],[]) by kernel_rfl)
  | 2,_=>exact (show runK (CC []) 10 159 [.sc (.int .u64 ((2:Nat):Int))] []=some ([iv (ni 2)],[],[]) by kernel_rfl)
  | 3,_=>exact (show runK (CC []) 10 159 [.sc (.int .u64 ((3:Nat):Int))] []=some ([iv (ni 3)],[],[]) by kernel_rfl)
  | 4,_=>exact (show runK (CC []) 10 159 [.sc (.int .u64 ((4:Nat):Int))] []=some ([iv (ni 4)],[],[]) by kernel_rfl)
  | 5,_=>exact (show runK (CC []) 10 159 [.sc (.int .u64 ((5:Nat):Int))] []=some ([iv (ni 5)],[],[]) by kernel_rfl)
  | 6,_=>exact (show runK (CC []) 10 159 [.sc (.int .u64 ((6:Nat):Int))] []=some ([iv (ni 6)],[],[]) by kernel_rfl)
  | 7,_=>exact (show runK (CC []) 10 159 [.sc (.int .u64 ((7:Nat):Int))] []=some ([iv (ni 7)],[],[]) by kernel_rfl)
  | 8,_=>exact (show runK (CC []) 10 159 [.sc (.int .u64 ((8:Nat):Int))] []=some ([iv (ni 8)],[],[]) by kernel_rfl)
  | 9,_=>exact (show runK (CC []) 10 159 [.sc (.int .u64 ((9:Nat):Int))] []=some ([iv (ni 9)],[],[]) by kernel_rfl)
  | 10,_=>exact (show runK (CC []) 10 159 [.sc (.int .u64 ((10:Nat):Int))] []=some ([iv (ni 10)],[],[]) by kernel_rfl)
  | 11,_=>exact (show runK (CC []) 10 159 [.sc (.int .u64 ((11:Nat):Int))] []=some ([iv (ni 11)],[],[]) by kernel_rfl)
  | 12,_=>exact (show runK (CC []) 10 159 [.sc (.int .u64 ((12:Nat):Int))] []=some ([iv (ni 12)],[],[]) by kernel_rfl)
  | n+13,h=>omega
 exact⟨10,_,_,_,_,_,key n hn,rfl,Wk.refl rfl,trivial⟩
theorem aiB {L:Lst}(hL:bx L 159=fun a=>Bm (aK a))(run:aw)(n:Nat)(hn:n≤12):az L run 159 [.sc (.int .u64 n)] (iv (ni n)) :=
 ji aaq (e:=fun n:Nat=>[.sc (.int .u64 n)]) (f:=fun n=>[iv (ni n)]) hL (fun x y _ _ h=>by
  simp only[List.cons.injEq,PV.sc.injEq,Value.int.injEq,and_true,true_and] at h
  rw[Int.ofNat.inj h]) run n hn (fun _=>rfl) (by simp only[aK,canon])
theorem Q5:base.F.get 158=some f158:=by kernel_rfl
theorem aan:base.shared 158=true:=by kernel_rfl
theorem KF:base.F.get 123=some f123:=by kernel_rfl
theorem Sx:base.shared 123=true:=by kernel_rfl
theorem mu {L:Lst}{run:aw}{g:Nat}{args rs:Ψ}{hp hp':Θ}{w:Ω}(hs:base.shared g=true)(hr:run g args hp=some (rs,hp',w))(hl:bV rs=true→hp'.length=hp.length)(dr:Bool):∃ fp,bP (CC L) run dr hp g args=some (jm rs,hp',fp):=by
 have hs':(CC L).shared g=true:=hs
 unfold bP
 rw[if_pos hs',hr]
 dsimp only
 cases hi:bV rs with
 | false=>simp only[Bool.false_and,cond_false];exact⟨_,rfl⟩
 | true =>
  cases ie hp' hp.length (ky hp.length w) with
  | false=>simp only[Bool.true_and,cond_false];exact⟨_,rfl⟩
  | true =>
   have:qO hp.length hp'=hp':=by rw[← hl hi];exact sF _
   simp only[Bool.true_and,cond_true,this]
   exact⟨_,rfl⟩
abbrev fnB:PV:=.sc (.func (.func 124) ⟨[]⟩ ⟨[]⟩)
def x7:Code:=f158.body.getD .skip
def PD:Code:=(aA x7).getD .skip
theorem adb:x7 = .seq (seq1 x7) (.seq (seq1 (aQ x7)) (.block 0 (.loop PD))):=rfl
def ze:Code:=blk PD
theorem ade:PD = .block 1 (.seq (seq1 ze) (.seq (seq1 (aQ ze)) (aQ (aQ ze)))):=rfl
theorem ada (L:Lst)(run:aw)(k:Nat)(p l f:PV)(n:Nat)(hn:n≤12)(hp hp':Θ)(r:PV)(fp:FP)(hc:bP (CC L) run false hp 171 [p,.sc (.int .i64 0),iv n,f]=some (r,hp',fp)) :
  ∃ fr fr' wr',ae (CC L) run k x7 ⟨entry 148 [p,.sc (.int .i64 0),iv n,l,f],hp,[]⟩=ae (CC L) run k (.block 0 (.loop PD)) ⟨fr,hp,[]⟩∧ae (CC L) run k PD ⟨fr,hp,[]⟩=some (.ret,⟨fr',hp',wr'⟩):=by
 have hl:=fG 148 [p,.sc (.int .i64 0),iv n,l,f] (by simp)
 have e0:nth (entry 148 [p,.sc (.int .i64 0),iv n,l,f]) 0=p:=rfl
 have e1:nth (entry 148 [p,.sc (.int .i64 0),iv n,l,f]) 1 = .sc (.int .i64 0):=rfl
 have e2:nth (entry 148 [p,.sc (.int .i64 0),iv n,l,f]) 2=iv n:=rfl
 have e4:nth (entry 148 [p,.sc (.int .i64 0),iv n,l,f]) 4=f:=rfl
 generalize entry 148 [p,.sc (.int .i64 0),iv n,l,f]=fr0 at *
 obtain⟨fr,a1,a2,a3,a4,a5,a6⟩:∃ fr,ae (CC L) run k (.seq (seq1 x7) (seq1 (aQ x7))) ⟨fr0,hp,[]⟩=some (.normal,⟨fr,hp,[]⟩)∧fr.length=148∧nth fr 0=p∧nth fr 1 = .sc (.int .i64 0)∧nth fr 2=iv n∧nth fr 4=f:=by
  simp[x7,f158,seq1,aQ,aC,af,ab,hl,e0,e1,e2,e4]
 have hw:bA .i64 (((n:Nat):Int) - 0)=(n:Int):=by
  simpa using jx .i64 n 0 n (by omega) (hiI (by omega))
 simp at hw
 have hle:((n:Int)≤12):=by omega
 obtain⟨fr',wr',b1⟩:∃ fr' wr',ae (CC L) run k (.seq (seq1 ze) (seq1 (aQ ze))) ⟨fr,hp,[]⟩=some (.ret,⟨fr',hp',wr'⟩):=by
  simp only[iv] at a5 hc
  simp[ze,blk,PD,x7,f158,seq1,aQ,aC,aa,af,ab,a2,a3,a4,a5,a6,hw,hle,hc]
 refine⟨fr,fr',wr',?_,?_⟩
 ·rw[adb]
  rw[ae] at a1 ⊢
  cases h1:ae (CC L) run k (seq1 x7) ⟨fr0,hp,[]⟩ with
  | none=>rw[h1] at a1;cases a1
  | some q =>
   obtain⟨e,st⟩:=q
   rw[h1] at a1
   cases e with
   | normal=>dsimp only at a1 ⊢;rw[ar a1]
   | _=>cases a1
 ·have b2:ae (CC L) run k (.seq (seq1 ze) (.seq (seq1 (aQ ze)) (aQ (aQ ze)))) ⟨fr,hp,[]⟩=some (.ret,⟨fr',hp',wr'⟩):=by
   rw[ae] at b1 ⊢
   cases h1:ae (CC L) run k (seq1 ze) ⟨fr,hp,[]⟩ with
   | none=>rw[h1] at b1;cases b1
   | some q =>
    obtain⟨e,st⟩:=q
    rw[h1] at b1
    cases e with
    | normal=>dsimp only at b1 ⊢;exact bO b1
    | ret=>simp at b1;subst b1;rfl
    | _=>simp at b1
  rw[ade,ae,b2]
theorem ac9 {L:Lst}{k:Nat}(p l f:PV)(n:Nat)(hn:n≤12)(hk:0<k)(hp hp':Θ)(r:PV)(fp:FP)(hc:bP (CC L) (runK (CC L) k) false hp 171 [p,.sc (.int .i64 0),iv n,f]=some (r,hp',fp)):∃ wr,runK (CC L) (k+1) 158 [p,.sc (.int .i64 0),iv n,l,f] hp=some ([],hp',wr):=by
 obtain⟨fr,fr',wr',a1,a2⟩:=ada L (runK (CC L) k) k p l f n hn hp hp' r fp hc
 have h1:=bK (du (n:=0) a2) (show 0+1≤k by omega)
 have hx:ae (CC L) (runK (CC L) k) k x7 ⟨entry 148 [p,.sc (.int .i64 0),iv n,l,f],hp,[]⟩=some (.ret,⟨fr',hp',wr'⟩):=by
  rw[a1]
  simp only[ae,h1]
 exact⟨_,ez Q5 rfl hx rfl⟩
theorem uI_:und TT 3=some (.int .i64):=by kernel_rfl
theorem akR:und TT 114=some (.int .u64):=by kernel_rfl
theorem Z8 (L:Lst)(run:aw)(k:Nat)(p f l:PV)(n:Nat)(hn:n≤12)(hl:cX p=some n)(hp hp':Θ)(r:PV)(fp:FP)(g:az L run 159 [.sc (.int .u64 n)] l)(hc:bP (CC L) run false hp 158 [p,.sc (.int .i64 0),iv n,l,f]=some (r,hp',fp)) :
  ∃ fr wr,ae (CC L) run k (f123.body.getD .skip) ⟨entry 14 [p,f],hp,[]⟩=some (.normal,⟨fr,hp',wr⟩):=by
 obtain⟨e1,e2,e3⟩:=cl 12 p f
 generalize entry 14 [p,f]=fr0 at *
 unfold az at g
 simp only[iv] at hc
 have hw:=dk .u64 n (Nat.le_trans hn (by decide))
 have hcv:dD TT hp 3 114 (.sc (.int .i64 (n:Int)))=some (.sc (.int .u64 (n:Int)),[]):=by
  simp only[dD,uI_,akR,hw];rfl
 simp[f123,aC,bL,aa,af,ab,bc,e1,e2,e3,hl,kK,g,hc,hcv]
theorem afp {L:Lst}{k:Nat}{ok:VN→Prop}{bI:VN→VN→Int}(hB:Bef L (runK (CC L) k) ok bI)(hbl:bx L 159=fun a=>Bm (aK a)){id:Nat}{x:Bool}{rest:Ψ}(E:List VN)(h9:E.length≤12)(hk:E.length<k)(p:PV)(hp:Θ)(hl:cX p=some E.length)(hE:E=[]∨p = .own id 2 0 E.length x∧aL hp id=some ⟨.live,cells E rest⟩)(hok:∀ z ∈ E,ok z)(dr:Bool) :
  ∃ hp' r fp D,bP (CC L) (runK (CC L) (k+3)) dr hp 123 [p,fnB]=some (r,hp',fp)∧Hx hp hp' id∧(E=[]∨aL hp' id=some ⟨.live,cells D rest⟩)∧D.Perm E∧D.Pairwise leN:=by
 obtain⟨hp',wr,D,a1,a2,a3,a4,a5⟩:=agX hB E (by omega) hk p hp hE hok
 obtain⟨fp,b1⟩:=mu aao a1 (fun _=>a2.1) false
 obtain⟨wr2,c1⟩:=ac9 p (iv (ni E.length)) fnB E.length h9 (by omega) hp hp' _ fp b1
 obtain⟨fp2,d1⟩:=mu aan c1 (fun _=>a2.1) false
 obtain⟨fr3,wr3,e1⟩:=Z8 L (runK (CC L) (k+2)) (k+2) p fnB (iv (ni E.length)) E.length h9 hl hp hp' _ fp2 (aiB hbl _ _ h9) d1
 obtain⟨fp4,f1⟩:=mu Sx (yE KF rfl e1 rfl) (fun _=>a2.1) dr
 exact⟨hp',_,fp4,D,f1,a2,a3,a4,a5⟩
theorem qB:base.F.get 125=some f125:=by kernel_rfl
theorem wH:base.shared 125=true:=by kernel_rfl
abbrev fnE:PV:=.sc (.func (.func 126) ⟨[]⟩ ⟨[]⟩)
def cmC:Code:=f125.body.getD .skip
def cmB:Code:=(aA cmC).getD .skip
def cmX:Code:=blk (seq1 (aQ cmB))
def cmY:Code:=lF (aQ cmX)
def cmI:Code:=(aA cmY).getD .skip
def cmW:Code:=blk (seq1 (aQ cmI))
theorem JD:cmB = .seq (seq1 cmB) (.seq (.block 1 (.seq (seq1 cmX) (.cond (.tmp 28) cmY .skip))) (aQ (aQ cmB))):=rfl
theorem ahH:cmY = .seq (seq1 cmY) (.seq (.seq (seq1 (seq1 (aQ cmY))) (.block 2 (.loop cmI))) (aQ (aQ cmY))):=rfl
theorem ahI:cmW = .seq (seq1 cmW) (.cond (.tmp 49) (lF (aQ cmW)) .skip):=rfl
theorem Wy (id off n j:Nat)(x:Bool)(hj:j<n):bd TT 100 (.own id 2 off n x) (.sc (.int .i64 (j:Int)))=some (.ptr id (off+j*2)):=by
 simp only[bd,kK,bn,nI,hj,and_self,if_true]
theorem Sc(id n i:Nat)(x:Bool)(hi:i≤n):dw TT hp 100 (.own id 2 0 n x) (some (iv i)) none none=some (.own id 2 (i*2) (n - i) x):=by
 simp[dw,kK,iJ,nI,bnd,fv,iv,bn,hi,gK]
theorem Sd(id n i:Nat)(x:Bool)(hi:i≤n):dw TT hp 100 (.own id 2 0 n x) none (some (iv i)) none=some (.own id 2 0 i (x && i == n)):=by
 simp[dw,kK,iJ,nI,bnd,fv,iv,bn,hi,gK]
theorem aaQ (m:Nat)(l:Ψ):(rep m l).length=m*l.length:=by
 induction m with
 | zero=>simp[rep]
 | succ m ih=>rw[rep,length_append,ih,Nat.succ_mul];omega
section
variable (L:Lst) (run:aw) (k:Nat) (fr:Ψ) (hp:Θ) (wr:Ω) (id n:Nat) (x:Bool) (E:List VN) (rest:Ψ)
theorem als (i j:Nat)(hij:i=j+1)(hi:i<n)(hn:E.length=n)(h9:n<1000)(u:Bool)(hb:aL hp id=some ⟨.live,cells E rest⟩)(g:∀ dr hp,bP (CC L) run dr hp 126 [.agg (eC true (E[i]'(by omega))),.agg (eC true (E[j]'(by omega)))]=some (.sc (.bool u),hp,⟨[],[],true,true⟩))(h0:fr.length=66)(h00:nth fr 0 = .own id 2 0 n x)(h1:nth fr 1=fnE)(h5:nth fr 5=iv i) :
  ∃ fr' wr',ae (CC L) run k (seq1 cmX) ⟨fr,hp,wr⟩=some (.normal,⟨fr',hp,wr'⟩)∧nth fr' 28 = .sc (.bool u):=by
 have q1:=kH E rest i (by omega)
 have q2:=kH E rest j (by omega)
 have x1:=rI id n i x hi
 have x2:=rI id n j x (by omega)
 have w1:bA .i64 ((i:Int) - 1)=(j:Int):=by
  simpa using jx .i64 i 1 j (by omega) (hiI (by omega))
 generalize eC true (E[i]'(by omega))=ci at *
 generalize eC true (E[j]'(by omega))=cj at *
 simp only[iv] at h5
 simp[seq1,aQ,blk,cmX,cmB,cmC,f125,aC,partOf,aa,af,ab,bc,and_assoc,h0,h00,h1,h5,x1,x2,w1,hb,q1,q2,g,zp,nI,aU,number,FP.free,cw,FP.apart]
theorem alr (i m:Nat)(hi:i≤n)(hm:m=n - i)(h0:fr.length=66)(h00:nth fr 0 = .own id 2 0 n x)(h5:nth fr 5=iv i) :
  ∃ fr',ae (CC L) run k (seq1 cmY) ⟨fr,hp,wr⟩=some (.normal,⟨fr',hp,wr⟩)∧nth fr' 6 = .own id 2 (i*2) m x:=by
 have hs:=Sc hp id n i x hi
 rw[← hm] at hs
 simp only[iv] at h5 hs
 simp[seq1,aQ,blk,lF,cmY,cmX,cmB,cmC,f125,aC,aa,af,ab,bc,h0,h00,h5,hs]
theorem alq (h0:fr.length=66) :
  ∃ fr',ae (CC L) run k (seq1 (seq1 (aQ cmY))) ⟨fr,hp,wr⟩=some (.normal,⟨fr',hp,wr⟩)∧nth fr' 7=iv 1:=by
 simp[iv,seq1,aQ,blk,lF,cmY,cmX,cmB,cmC,f125,aC,aa,h0]
theorem akt (t s i j m:Nat)(u:Bool)(hts:t=s+1)(hti:t=i+j)(hj:j<m)(hj1:1≤j)(hin:t<n)(hn:E.length=n)(h9:n<1000)(hb:aL hp id=some ⟨.live,cells E rest⟩)(g:∀ dr hp,bP (CC L) run dr hp 126 [.agg (eC true (E[t]'(by omega))),.agg (eC true (E[s]'(by omega)))]=some (.sc (.bool u),hp,⟨[],[],true,true⟩))(h0:fr.length=66)(h1:nth fr 1=fnE)(h6:nth fr 6 = .own id 2 (i*2) m x)(h7:nth fr 7=iv j) :
  ∃ fr' wr',ae (CC L) run k (seq1 cmW) ⟨fr,hp,wr⟩=some (.normal,⟨fr',hp,wr'⟩)∧nth fr' 49 = .sc (.bool !u):=by
 have q1:=kH E rest t (by omega)
 have q2:=kH E rest s (by omega)
 obtain⟨j',rfl⟩:∃ j',j=j'+1:=⟨j - 1,by omega⟩
 have x1:=Wy id (i*2) m (j'+1) x hj
 have x2:=Wy id (i*2) m j' x (by omega)
 rw[show i*2+(j'+1)*2=t*2 by omega] at x1
 rw[show i*2+j'*2=s*2 by omega] at x2
 have w1:bA .i64 (((j'+1:Nat):Int) - 1)=(j':Int):=by
  simpa using jx .i64 (j'+1) 1 j' (by omega) (hiI (by omega))
 generalize eC true (E[t]'(by omega))=ci at *
 generalize eC true (E[s]'(by omega))=cj at *
 simp only[iv] at h7
 generalize ((j'+1:Nat):Int)=J at *
 simp[seq1,aQ,blk,lF,cmW,cmI,cmY,cmX,cmB,cmC,f125,aC,partOf,unP,aa,af,ab,bc,and_assoc,h0,h1,h6,h7,x1,x2,w1,hb,q1,q2,g,zp,nI,aU,number,FP.free,cw,FP.apart]
theorem aks (t i j m q:Nat)(hti:t=i+j)(hj:j<m)(hin:t<n)(hq:q<n)(hn:E.length=n)(h9:n<1000)(hb:aL hp id=some ⟨.live,cells E rest⟩)(h0:fr.length=66)(h00:nth fr 0 = .own id 2 0 n x)(h5:nth fr 5=iv q)(h6:nth fr 6 = .own id 2 (i*2) m x)(h7:nth fr 7=iv j) :
  ∃ fr' hp' wr',ae (CC L) run k (lF (aQ cmW)) ⟨fr,hp,wr⟩=some (.normal,⟨fr',hp',wr'⟩)∧nth fr' 5=iv (q+1)∧Hx hp hp' id∧aL hp' id=some ⟨.live,cells (E.set q (E[t]'(by omega))) rest⟩:=by
 have q1:=kH E rest t (by omega)
 have o1:=Gf E rest q (E[t]'(by omega)) (by omega)
 have x1:=Wy id (i*2) m j x hj
 rw[show i*2+j*2=t*2 by omega] at x1
 have x2:=rI id n q x hq
 have l1:(eC true (E[t]'(by omega))).length=2:=rfl
 have k1:bg (eC true (E[t]'(by omega)))=true:=rfl
 have n1:=sN hb ⟨.live,cells (E.set q (E[t]'(by omega))) rest⟩
 have H1:=Hx.set hb ⟨.live,cells (E.set q (E[t]'(by omega))) rest⟩
 have hw:=bD q (by omega)
 generalize cells (E.set q (E[t]'(by omega))) rest=cs1 at *
 generalize eC true (E[t]'(by omega))=ci at *
 simp only[iv] at h5 h7
 simp[iv,seq1,aQ,blk,lF,cmW,cmI,cmY,cmX,cmB,cmC,f125,aC,partOf,aa,af,ab,bc,and_assoc,bm,h0,h00,h5,h6,h7,x1,x2,hb,q1,o1,l1,k1,n1,H1,hw,zp,nI,aU]
def zC:Ψ:=[.sc (.slice none 0 0),.sc (.int .i64 0)]
theorem ako (q:Nat)(hq:q≤n)(hn:E.length=n)(hb:aL hp id=some ⟨.live,cells E rest⟩)(h0:fr.length=66)(h00:nth fr 0 = .own id 2 0 n x)(h5:nth fr 5=iv q) :
  ∃ st,ae (CC L) run k (aQ (aQ cmY)) ⟨fr,hp,wr⟩=some (.ret,st)∧Hx hp st.hp id∧aL st.hp id=some ⟨.live,cells (E.take q) (rep (n - q) zC++rest)⟩∧aX TT st.fr st.hp f125.results.toList=some [.own id 2 0 q (x && q == n)]:=by
 have s1:=Sc hp id n q x hq
 have s2:=fun hp=>Sd hp id n q x hq
 have hz:zC.length=2:=rfl
 have hzk:bg zC=true:=rfl
 have ho:ca (cells E rest) (q*2) (rep (n - q) zC)=some (cells (E.take q) (rep (n - q) zC++rest)):=by
  have h1:cells E rest=(E.take q).flatMap (eC true)++((E.drop q).flatMap (eC true)++rest):=by
   unfold cells
   rw[← append_assoc,← flatMap_append,take_append_drop]
  have h2:((E.take q).flatMap (eC true)).length=q*2:=by rw[(Cs true).length,length_take,Nat.min_eq_left (by omega)]
  have h3:(rep (n - q) zC).length=(n - q)*2:=aaQ _ _
  rw[h1,← h2]
  exact pf _ _ _ _ 0 (nZ _ _ _ (by rw[(Cs true).length,length_drop,hn,h3]))
 have n1:=sN hb ⟨.live,cells (E.take q) (rep (n - q) zC++rest)⟩
 have H1:=Hx.set hb ⟨.live,cells (E.take q) (rep (n - q) zC++rest)⟩
 generalize cells (E.take q) (rep (n - q) zC++rest)=cs1 at *
 simp only[iv] at h5 s1 s2
 have zz:dU TT 102=some zC:=GN
 simp[seq1,aQ,blk,lF,cmY,cmX,cmB,cmC,f125,aC,aa,af,ab,bc,h0,h00,h5,s1,s2,hb,ho,n1,H1,zz,hz,hzk,kK,nI,aX]
theorem akv (i:Nat)(p:PV)(hl:cX p=some n)(h0:fr.length=66)(h00:nth fr 0=p)(h5:nth fr 5=iv i) :
  ∃ fr',ae (CC L) run k (seq1 cmB) ⟨fr,hp,wr⟩=some (bif decide (i<n) then .normal else .exit 0,⟨fr',hp,wr⟩):=by
 simp only[iv] at h5
 obtain⟨u,hu⟩:∃ u,decide (i<n)=u:=⟨_,rfl⟩
 rw[hu]
 cases u <;> simp only[decide_eq_true_eq,decide_eq_false_iff_not] at hu <;> simp[cmB,cmC,f125,seq1,aC,bL,aa,af,ab,bc,h0,h00,h5,hl,hu,kK]
theorem alw (i:Nat)(h9:i<1000)(h0:fr.length=66)(h5:nth fr 5=iv i) :
  ∃ fr',ae (CC L) run k (aQ (aQ cmB)) ⟨fr,hp,wr⟩=some (.normal,⟨fr',hp,wr⟩)∧nth fr' 5=iv (i+1):=by
 have hw:=bD i (by omega)
 simp only[iv] at h5
 simp[iv,cmB,cmC,f125,aQ,aC,aa,ab,h0,h5,hw]
end
end Go.Proofs.YtjdmodeenbdfpaaGreat
end
