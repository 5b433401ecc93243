/- Ranks by elimination and by minors, part 41; each lemma states its conditions. -/
import Derived.Test.YtjdmodeenbdfpaaGreatU40
import Derived.Test.YtjdmodeenbdfpaaGreatU39
import Derived.Test.YtjdmodeenbdfpaaGreatU14
set_option linter.unusedSimpArgs false
set_option linter.unusedVariables false
noncomputable section
namespace Go.Proofs.YtjdmodeenbdfpaaGreat
open Go Go.Ab List Tryz
attribute [local simp] FzZ aC aF aG aH aM aY aa ab ae af ag ah aj an aq ar au
variable(L:Lst)(run:av)(k:Nat)(fr:Ψ)(hp:Θ)(wr:Ω)
structure tA (k:Nat) (p:List Rat) (M R:List (List Rat)):Prop where
 mem:p ∈ M
 piv:p.getD k 0≠0
 fwd:∀ r,r ∈ R→∃ s,s ∈ M∧Red k p s r
 bwd:∀ s,s ∈ M→s=p∨∃ r,r ∈ R∧Red k p s r
theorem Red.mul {p s r:List Rat}{k:Nat}(h:Red k p s r)(hp:p.getD k 0≠0)(i:Nat):p.getD k 0*r.getD i 0=p.getD k 0*s.getD i 0 - s.getD k 0*p.getD i 0:=by
 have e:s.getD k 0 / p.getD k 0*p.getD k 0=s.getD k 0:=Rat.div_mul_cancel hp
 rw[h i]
 generalize s.getD k 0 / p.getD k 0=x at *
 rw[← e]
 grind
theorem UX {x y:Rat}(hx:x≠0)(h:x*y=0):y=0:=by
 rcases Rat.mul_eq_zero.1 h with e | e
 ·exact absurd e hx
 ·exact e
theorem tA.q12 {k:Nat}(hk:k<3){p:List Rat}{M R:List (List Rat)}(h:tA k p M R):Q1 R→Q2 M:=by
 rintro⟨r,hr,hn⟩
 obtain⟨s,hs,hd⟩:=h.fwd r hr
 refine Classical.byContradiction fun e => ?_
 obtain⟨e1,e2,e3⟩:=xB (a:=p) (b:=s) fun e'=>e ⟨p,h.mem,s,hs,e'⟩
 have m0:=hd.mul h.piv 0
 have m1:=hd.mul h.piv 1
 have m2:=hd.mul h.piv 2
 have hz:∀ i,p.getD k 0*r.getD i 0=0→r.getD i 0=0:=fun i=>UX h.piv
 unfold cr1 at e1
 unfold cr2 at e2
 unfold cr3 at e3
 have:k=0∨k=1∨k=2:=by omega
 have z0:r.getD 0 0=0:=hz 0 (by rw[m0];rcases this with rfl | rfl | rfl <;> grind)
 have z1:r.getD 1 0=0:=hz 1 (by rw[m1];rcases this with rfl | rfl | rfl <;> grind)
 have z2:r.getD 2 0=0:=hz 2 (by rw[m2];rcases this with rfl | rfl | rfl <;> grind)
 rcases hn with e | e | e
 ·exact e z0
 ·exact e z1
 ·exact e z2
theorem tA.q21 {k:Nat}{p:List Rat}{M R:List (List Rat)}(h:tA k p M R):Q2 M→Q1 R:=by
 rintro⟨a,ha,b,hb,hi⟩
 refine Classical.byContradiction fun e => ?_
 have key:∀ s,s ∈ M→∀ i,i<3→p.getD k 0*s.getD i 0=s.getD k 0*p.getD i 0:=fun s hs i hi=>by
  rcases h.bwd s hs with rfl | ⟨r,hr,hd⟩
  ·rfl
  ·obtain⟨z0,z1,z2⟩:=UG (a:=r) fun e'=>e ⟨r,hr,e'⟩
   have m:=hd.mul h.piv i
   have:r.getD i 0=0:=by
    have:i=0∨i=1∨i=2:=by omega
    rcases this with rfl | rfl | rfl <;> assumption
   rw[this,Rat.mul_zero] at m
   grind
 have a0:=key a ha 0 (by omega)
 have a1:=key a ha 1 (by omega)
 have a2:=key a ha 2 (by omega)
 have b0:=key b hb 0 (by omega)
 have b1:=key b hb 1 (by omega)
 have b2:=key b hb 2 (by omega)
 have hp:=h.piv
 have g:∀ x:Rat,p.getD k 0*(p.getD k 0*x)=0→x=0:=fun x hx=>UX hp (UX hp hx)
 generalize p.getD k 0=q at *
 generalize a.getD k 0=ak at *
 generalize b.getD k 0=bk at *
 have c1:cr1 a b=0:=g _ (by
  have:q*(q*cr1 a b)=(q*a.getD 1 0)*(q*b.getD 2 0) - (q*a.getD 2 0)*(q*b.getD 1 0):=by unfold cr1;grind
  rw[this,a1,a2,b1,b2];grind)
 have c2:cr2 a b=0:=g _ (by
  have:q*(q*cr2 a b)=(q*a.getD 2 0)*(q*b.getD 0 0) - (q*a.getD 0 0)*(q*b.getD 2 0):=by unfold cr2;grind
  rw[this,a0,a2,b0,b2];grind)
 have c3:cr3 a b=0:=g _ (by
  have:q*(q*cr3 a b)=(q*a.getD 0 0)*(q*b.getD 1 0) - (q*a.getD 1 0)*(q*b.getD 0 0):=by unfold cr3;grind
  rw[this,a0,a1,b0,b1];grind)
 rcases hi with e | e | e
 ·exact e c1
 ·exact e c2
 ·exact e c3
theorem tA.q23 {k:Nat}(hk:k<3){p:List Rat}{M R:List (List Rat)}(h:tA k p M R):Q2 R→Q3 M:=by
 rintro⟨r,hr,t,ht,hi⟩
 obtain⟨s,hs,hd⟩:=h.fwd r hr
 obtain⟨u,hu,hd'⟩:=h.fwd t ht
 refine⟨p,h.mem,s,hs,u,hu,?_⟩
 have zr:=hd.zero h.piv
 have zt:=hd'.zero h.piv
 rw[Kz hd hd',QV hk zr zt]
 intro e
 have e2:=UX h.piv e
 have:k=0∨k=1∨k=2:=by omega
 unfold OZ cr1 cr2 cr3 at hi
 rcases this with rfl | rfl | rfl
 ·simp only[if_true,cr1] at e2
  rw[zr,zt] at hi
  grind
 ·simp only[cr2] at e2
  rw[zr,zt] at hi
  grind
 ·simp only[cr3] at e2
  rw[zr,zt] at hi
  grind
theorem tA.q32 {k:Nat}(hk:k<3){p:List Rat}{M R:List (List Rat)}(h:tA k p M R):Q3 M→Q2 R:=by
 rintro⟨a,ha,b,hb,c,hc,hi⟩
 refine Classical.byContradiction fun e=>hi ?_
 have key:∀ s,s ∈ M→∀ u,u ∈ M→tri p s u=0:=fun s hs u hu=>by
  rcases h.bwd s hs with rfl | ⟨r,hr,hd⟩
  ·unfold tri cr1 cr2 cr3;grind
  ·rcases h.bwd u hu with rfl | ⟨t,ht,hd'⟩
   ·unfold tri cr1 cr2 cr3;grind
   ·obtain⟨z1,z2,z3⟩:=xB (a:=r) (b:=t) fun e'=>e ⟨r,hr,t,ht,e'⟩
    rw[Kz hd hd']
    unfold tri
    rw[z1,z2,z3]
    grind
 refine UX h.piv ?_
 rw[GB p a b c k hk,key b hb c hc,key a ha c hc,key a ha b hb]
 grind
theorem tA.n3 {k:Nat}(hk:k<3){p:List Rat}{M R:List (List Rat)}(h:tA k p M R) : ¬ Q3 R:=by
 rintro⟨a,ha,b,hb,c,hc,hi⟩
 have z:∀ r,r ∈ R→r.getD k 0=0:=fun r hr=>by
  obtain⟨s,-,hd⟩:=h.fwd r hr
  exact hd.zero h.piv
 have za:=z a ha
 have zb:=z b hb
 have zc:=z c hc
 have:k=0∨k=1∨k=2:=by omega
 apply hi
 rcases this with rfl | rfl | rfl <;> simp[tri,cr1,cr2,cr3] <;> grind
theorem tA.rk {k:Nat}(hk:k<3){p:List Rat}{M R:List (List Rat)}(h:tA k p M R):rkM M=rkM R+1:=by
 have q1:Q1 M:=by
  refine⟨p,h.mem,?_⟩
  have:=h.piv
  have hk':k=0∨k=1∨k=2:=by omega
  rcases hk' with rfl | rfl | rfl
  ·exact .inl this
  ·exact .inr (.inl this)
  ·exact .inr (.inr this)
 have n3:=h.n3 hk
 by_cases h3:Q3 M
 ·rw[aeP h3,Sh n3 (h.q32 hk h3)]
 ·by_cases h2:Q2 M
  ·rw[Sh h3 h2,Si (fun e=>h3 (h.q23 hk e)) (h.q21 h2)]
  ·rw[Si h2 q1,Sj (fun e=>h2 (h.q12 hk e))]
theorem vE {X:List Rat}{i:Nat}(h:X.length≤i):X.getD i 0=0:=by rw[getD_eq_getElem?_getD,getElem?_eq_none h];rfl
theorem wB {kk n:Nat}{P V:List Rat}(hP:P.length=n)(hV:V.length=n):Red kk P V (DB kk P V):=by
 intro i
 unfold DB
 split
 ·rename_i h
  rw[h,Rat.div_def,Rat.zero_mul,Rat.zero_mul,Rat.sub_eq_add_neg,Rat.neg_zero,Rat.add_zero]
 ·generalize V.getD kk 0 / P.getD kk 0=f
  by_cases hi:i<n
  ·have h3:i<(CN f V P).length:=by rw[vQ (by omega)];omega
   rw[mB h3,QM (by omega) (by omega) h3,mB (X:=V) (by omega),mB (X:=P) (by omega)]
  ·rw[vE (by rw[vQ (by omega)];omega),vE (X:=V) (by omega),vE (X:=P) (by omega)]
   grind
def tl (N r:Nat)(g:Nat→List Rat):List (List Rat):=(List.range (N - r)).map fun t=>g (r+t)
theorem s9 {N r:Nat}{g:Nat→List Rat}{X:List Rat} : X ∈ tl N r g ↔ ∃ t,r≤t∧t<N∧g t=X:=by
 unfold tl
 rw[mem_map]
 constructor
 ·rintro⟨t,ht,rfl⟩
  rw[mem_range] at ht
  exact⟨r+t,by omega,by omega,rfl⟩
 ·rintro⟨t,h1,h2,rfl⟩
  exact⟨t - r,by rw[mem_range];omega,by rw[show r+(t - r)=t by omega]⟩
def swG (g:Nat→List Rat)(r j t:Nat):List Rat:=if t=r+j then g r else if t=r then g (r+j) else g t
structure RkI (M0:List (List Rat)) (n N kk r:Nat) (bb:Nat) (g:Nat→List Rat):Prop where
 rk:rkM M0=r+rkM (tl N r g)
 le:r≤N
 ln:∀ t,t<N→(g t).length=n∧RbL bb (g t)
 z:∀ t,r≤t→t<N→∀ c,c<kk→(g t).getD c 0=0
theorem RkI.skip {M0:List (List Rat)}{n N kk r bb:Nat}{g:Nat→List Rat}(h:RkI M0 n N kk r bb g)(hz:∀ t,t<N - r→(g (r+t)).getD kk 0=0):RkI M0 n N (kk+1) r (4*bb+1) g where
 rk:=h.rk
 le:=h.le
 ln:=fun t ht=>⟨(h.ln t ht).1,fun x hx=>((h.ln t ht).2 x hx).mono (by omega)⟩
 z:=fun t h1 h2 c hc=>by
  by_cases e:c=kk
  ·subst e
   have:=hz (t - r) (by omega)
   rwa [show r+(t - r)=t by omega] at this
  ·exact h.z t h1 h2 c (by omega)
theorem KB {g:Nat→List Rat}{r j N t:Nat}(hj:j<N - r)(h1:r<t)(h2:t<N):∃ s,r≤s∧s<N∧s≠r+j∧swG g r j t=g s:=by
 unfold swG
 by_cases e:t=r+j
 ·rw[if_pos e]
  by_cases e0:j=0
  ·omega
  ·exact⟨r,by omega,by omega,by omega,rfl⟩
 ·rw[if_neg e,if_neg (by omega)]
  exact⟨t,by omega,h2,e,rfl⟩
theorem QY {g:Nat→List Rat}{r j N s:Nat}(hj:j<N - r)(h1:r≤s)(h2:s<N)(hs:s≠r+j):∃ t,r<t∧t<N∧swG g r j t=g s:=by
 unfold swG
 by_cases e:s=r
 ·exact⟨r+j,by omega,by omega,by rw[if_pos rfl,e]⟩
 ·exact⟨s,by omega,h2,by rw[if_neg hs,if_neg e]⟩
theorem RkI.step {M0:List (List Rat)}{n N kk r bb j:Nat}{g:Nat→List Rat}(h:RkI M0 n N kk r bb g)(hn:n≤3)(hkk:kk<n)(hj:j<N - r)(hp:(g (r+j)).getD kk 0≠0):RkI M0 n N (kk+1) (r+1) (4*bb+1) (Sw kk (r+1) (N - (r+1)) (g (r+j)) (swG g r j)):=by
 have hP:=h.ln (r+j) (by omega)
 have hsw:∀ t,t<N→∃ s,s<N∧swG g r j t=g s:=by
  intro t ht
  unfold swG
  split
  ·exact⟨r,by omega,rfl⟩
  ·split
   ·exact⟨r+j,by omega,rfl⟩
   ·exact⟨t,ht,rfl⟩
 have hred:∀ t,r+1≤t→t<N→Sw kk (r+1) (N - (r+1)) (g (r+j)) (swG g r j) t=DB kk (g (r+j)) (swG g r j t):=by
  intro t h1 h2
  unfold Sw
  rw[if_pos ⟨h1,by omega⟩]
 have hE:tA kk (g (r+j)) (tl N r g) (tl N (r+1) (Sw kk (r+1) (N - (r+1)) (g (r+j)) (swG g r j))):=by
  refine⟨s9.2 ⟨r+j,by omega,by omega,rfl⟩,hp,fun R hR => ?_,fun S hS => ?_⟩
  ·obtain⟨t,h1,h2,rfl⟩:=s9.1 hR
   obtain⟨s,s1,s2,-,s4⟩:=KB (g:=g) hj (show r<t by omega) h2
   rw[hred t h1 h2,s4]
   exact⟨g s,s9.2 ⟨s,s1,s2,rfl⟩,wB hP.1 (h.ln s s2).1⟩
  ·obtain⟨s,h1,h2,rfl⟩:=s9.1 hS
   by_cases e:s=r+j
   ·left;rw[e]
   ·right
    obtain⟨t,t1,t2,t3⟩:=QY (g:=g) hj h1 h2 e
    refine⟨_,s9.2 ⟨t,by omega,t2,rfl⟩,?_⟩
    rw[hred t (by omega) t2,t3]
    exact wB hP.1 (h.ln s h2).1
 refine⟨by rw[h.rk,hE.rk (by omega)];omega,by omega,fun t ht => ?_,fun t h1 h2 c hc => ?_⟩
 ·obtain⟨s,s1,s2⟩:=hsw t ht
  have hs:=h.ln s s1
  unfold Sw
  split
  ·rw[s2]
   exact⟨Sv hP.1 hs.1,Z4 (by omega) (by omega) hp hP.2 hs.2⟩
  ·rw[s2]
   exact⟨hs.1,fun x hx=>(hs.2 x hx).mono (by omega)⟩
 ·obtain⟨s,s1,s2,-,s4⟩:=KB (g:=g) hj (show r<t by omega) h2
  rw[hred t h1 h2,s4]
  have hd:=wB (kk:=kk) hP.1 (h.ln s s2).1
  by_cases e:c=kk
  ·subst e
   exact hd.zero hp
  ·rw[hd c,h.z s s1 s2 c (by omega),h.z (r+j) (by omega) (by omega) c (by omega)]
   grind
theorem RkI.done {M0:List (List Rat)}{n N r bb:Nat}{g:Nat→List Rat}(h:RkI M0 n N n r bb g):rkM M0=r:=by
 rw[h.rk]
 have : ¬ Q1 (tl N r g):=by
  rintro⟨a,ha,hi⟩
  obtain⟨t,t1,t2,rfl⟩:=s9.1 ha
  have z:∀ c,(g t).getD c 0=0:=fun c=>by
   by_cases e:c<n
   ·exact h.z t t1 t2 c e
   ·exact vE (by rw[(h.ln t t2).1];omega)
  unfold nz at hi
  rw[z,z,z] at hi
  grind
 rw[Sj this];rfl
theorem Hex.frame {a b:Θ}{w i:Nat}{x:Blk}(h:Hex a b w)(hi:aX a i=some x)(hw:i≠w):aX b i=some x:=by rw[h.2 i (gp hi) hw,hi]
theorem Gj:base.F.get 57=some f57:=by kernel_rfl
theorem MR:base.shared 57=false:=by kernel_rfl
theorem Gk:base.F.get 107=some f107:=by kernel_rfl
theorem MU:base.shared 107=false:=by kernel_rfl
def suC:Code:=f57.body.getD .skip
def suB:Code:=(az suC).getD .skip
theorem ajP:ai 2 suC = .seq (.seq (seq1 (seq1 (ai 2 suC))) (.block 0 (.loop suB))) (ai 3 suC):=rfl
theorem ahE:∃ el,und TT 39=some (.slice el):=⟨_,uPt⟩
theorem fr0:FP.free ⟨[],[],false,false⟩=true:=rfl
theorem Q5(P Q:List Rat)(i:Nat)(out:List ByteArray)(hi:i<P.length)(hj:i<Q.length)(ho9:out.length≤1000)(g:aA L run 70 [qt P[i],qt Q[i]] (qt (P[i] - Q[i])))(hO:cH 1 es 0 hp out (nth fr 5))(h0:fr.length=26)(h00:nth fr 0=qL P)(h1:nth fr 1=qL Q)(h6:nth fr 6=iv i) :
  ∃ fr' hp' wr',ae (CC L) run k (.block 1 (cI suB)) ⟨fr,hp,wr⟩=some (.normal,⟨fr',hp',wr'⟩)∧cH 1 es 0 hp' (out++[qb (P[i] - Q[i])]) (nth fr' 5):=by
 obtain⟨r1,x1,x2⟩:=AA P i hi
 obtain⟨r2,y1,y2⟩:=AA Q i hj
 obtain⟨p',hp',fp,a1,a2,a3,-⟩:=hO.app Fs.toEl [qb (P[i] - Q[i])] (by simp) (by simp;omega)
 unfold qt at g
 generalize qb (P[i] - Q[i])=v at *
 rw[show [v].flatMap es=[.sc (.string v)] from rfl,show [v].length=1 from rfl] at a1
 have hid:bT [PV.sc (.string v)]=true:=rfl
 have hlit:=abW v
 have hrd:=aeW hp v
 unfold aA at g
 generalize qb P[i]=s1 at *
 generalize qb Q[i]=s2 at *
 simp only[iv] at h6
 have fr0':=fr0
 cases hfp:FP.free ⟨fp.rd,fp.wr,fp.al,false⟩ <;> simp[cI,suB,suC,f57,az,partOf,bf,and_assoc,bj,Iw,h0,h00,h1,h6,x1,x2,y1,y2,g,hid,hlit,hrd,a1,a2,uPt,iJ,gN,adv,ajv,bZ,aV,number,fr0',hfp]
theorem aer (L:Lst)(run:av)(k:Nat)(p q:PV):∃ fr wr,bh (CC L) run k 2 suC ⟨entry 26 [p,q],[],[]⟩=some ⟨fr,[],wr⟩∧fr.length=26∧nth fr 0=p∧nth fr 1=q∧nth fr 5 = .sc (.slice none 0 0):=by
 obtain⟨e1,e2,e3⟩:=cb 24 p q
 generalize entry 26 [p,q]=fr0 at *
 simp[suC,f57,bh,and_assoc,e1,e2,e3]
theorem ahJ(h0:fr.length=26):∃ fr',ae (CC L) run k (seq1 (seq1 (ai 2 suC))) ⟨fr,hp,wr⟩=some (.normal,⟨fr',hp,wr⟩)∧nth fr' 6=iv 0:=by
 simp[iv,seq1,ai,suC,f57,h0]
theorem YT(p:PV)(h0:fr.length=26)(h5:nth fr 5=p):∃ st,ae (CC L) run k (ai 3 suC) ⟨fr,hp,wr⟩=some (.ret,st)∧st.hp=hp∧aY TT st.fr st.hp f57.results.toList=some [p]:=by
 simp[suC,ai,f57,h0,h5]
def LYa:Lst:=[(70,mnF),(34,wJ),(24,wL)]
theorem XQ:dt base.P LYa:=⟨Lf,zM,zT,trivial⟩
def aj2 (p:VV):Prop:=RbL 100000 p.1∧RbL 100000 p.2∧p.1.length≤p.2.length∧p.1.length≤100
def suF:Ψ→Option Ψ:=ctr (fun p:VV=>[qL p.1,qL p.2]) aj2 fun p=>[qL (kn p.1 p.2)]
theorem Mo {P Q:List Rat}{i:Nat}(hi:i<P.length)(hj:i<Q.length):(kn P Q).take (i+1)=(kn P Q).take i++[P[i] - Q[i]]:=by
 have h:i<(kn P Q).length:=by unfold kn;rw[length_zipWith];omega
 rw[take_succ_eq_append_getElem h]
 congr 2
 exact getElem_zipWith (f:=(· - ·)) (h:=h)
theorem YS:Ab.Spec base.P 57 suF:=Ab.Spec.bL (C:=CC LYa) (cP XQ) fun args rs h=>by
 obtain⟨⟨P,Q⟩,⟨hP,hQ,hl,h9⟩,rfl,rfl⟩:=cX h
 dsimp only at hP hQ hl h9
 obtain⟨fr1,wr1,a1,a2,a3,a4,a5⟩:=aer LYa (runK (CC LYa) 200) 200 (qL P) (qL Q)
 obtain⟨fr2,b1,b2⟩:=ahJ LYa (runK (CC LYa) 200) 200 fr1 [] wr1 a2
 have K2:=aP _ b1
 have i5:nth fr2 5 = .sc (.slice none 0 0):=K2.at a5
 obtain⟨fr3,hp3,wr3,c1,c2,c3⟩:=Lp.go (C:=CC LYa) (run:=runK (CC LYa) 200) (k:=200) (l:=pf suB) (body:=cI suB) (m:=26) (B:=suB) rfl (by kernel_rfl) (by kernel_rfl) (by kernel_rfl) ahE (n:=P.length) (j0:=0) (by omega) (by omega) (by omega)
  (J:=fun j f hp=>cH 1 es 0 hp (((kn P Q).take j).map qb) (f 5)) (fr0:=fr2) (hp0:=[]) (wr0:=wr1) (p:=qL P) (K2.len a2) (K2.at a3) (xJ P) b2
  (fun j f g hp h hJ=>by rw[← h 5 (by kernel_rfl)];exact hJ)
  (fun j fr hp wr _ hj hK hij hJ=>by
   obtain⟨fr',hp',wr',x1,x2⟩:=Q5 LYa (runK (CC LYa) 200) 200 fr hp wr P Q j _ hj (by omega) (by rw[length_map,length_take];omega) (XZ rfl _ (hP _ (getElem_mem _)) (hQ _ (getElem_mem _)) (by omega) (by omega)) hJ (hK.len (K2.len a2)) (hK.at (K2.at a3)) (hK.at (K2.at a4)) hij
   refine⟨fr',hp',wr',x1,?_⟩
   rw[Mo hj (by omega),map_append]
   exact x2)
  (by rw[i5];exact cH.nil (Nat.le_refl _))
 rw[take_of_length_le (by unfold kn;rw[length_zipWith];omega)] at c3
 obtain⟨st,d1,d2,d3⟩:=YT LYa (runK (CC LYa) 200) 200 fr3 hp3 wr3 _ (c2.len (K2.len a2)) rfl
 have hx:ae (CC LYa) (runK (CC LYa) 200) 200 suC ⟨entry 26 [qL P,qL Q],[],[]⟩=some (.ret,st):=by
  have hs:ae (CC LYa) (runK (CC LYa) 200) 200 (.seq (seq1 (seq1 (ai 2 suC))) (.block 0 (.loop suB))) ⟨fr1,[],wr1⟩=some (.normal,⟨fr3,hp3,wr3⟩):=by rw[ao b1];exact c1
  rw[aU 2 a1,ajP,ao hs];exact d1
 obtain⟨rs,ids,e1,e2⟩:=TU Fs.toEl c3
 exact⟨_,_,_,_,rs,ids,aZ Gj rfl hx d3,by rw[d2];exact e1,e2⟩
theorem Be {p q:VV}(h:[qL p.1,qL p.2]=[qL q.1,qL q.2]):p=q:=by
 simp only[List.cons.injEq,and_true] at h
 exact Prod.ext (xf h.1) (xf h.2)
theorem tp (P Q:List Rat):aK [qL P,qL Q]=[qL P,qL Q]:=by simp only[aK,qL,pE,Fs.yZ]
theorem ajD {L:Lst}(hL:bC L 57=fun a=>suF (aK a))(run:av)(P Q:List Rat){j k:Nat}(hP:RbL j P)(hQ:RbL k Q)(hj:j≤100000)(hk:k≤100000)(hl:P.length≤Q.length)(h9:P.length≤100):aA L run 57 [qL P,qL Q] (qL (kn P Q)) :=
 gi MR (e:=fun p:VV=>[qL p.1,qL p.2]) (f:=fun p=>[qL (kn p.1 p.2)]) hL (fun x y _ _ h=>by rw[Be h]) run (P,Q) ⟨fun x hx=>(hP x hx).mono hj,fun x hx=>(hQ x hx).mono hk,hl,h9⟩ (fun _=>rfl) (tp P Q)
def doC:Code:=f107.body.getD .skip
def doB:Code:=(az doC).getD .skip
theorem akj:ai 2 doC = .seq (.seq (seq1 (seq1 (ai 2 doC))) (.block 0 (.loop doB))) (ai 3 doC):=rfl
theorem Wn(P Q:List Rat)(i:Nat)(s t u:ByteArray)(hi:i<P.length)(hj:i<Q.length)(g1:aA L run 34 [qt P[i],qt Q[i]] (.sc (.string t)))(g2:aA L run 24 [.sc (.string s),.sc (.string t)] (.sc (.string u)))(h0:fr.length=25)(h00:nth fr 0=qL P)(h1:nth fr 1=qL Q)(h5:nth fr 5 = .sc (.string s))(h6:nth fr 6=iv i) :
  ∃ fr' wr',ae (CC L) run k (.block 1 (cI doB)) ⟨fr,hp,wr⟩=some (.normal,⟨fr',hp,wr'⟩)∧nth fr' 5 = .sc (.string u):=by
 obtain⟨r1,x1,x2⟩:=AA P i hi
 obtain⟨r2,y1,y2⟩:=AA Q i hj
 unfold qt at g1
 unfold aA at g1 g2
 generalize qb P[i]=s1 at *
 generalize qb Q[i]=s2 at *
 simp only[iv] at h6
 simp[cI,doB,doC,f107,az,partOf,bf,and_assoc,h0,h00,h1,h5,h6,x1,x2,y1,y2,g1,g2,iJ,gN,aV,number,FP.free]
theorem agn (L:Lst)(run:av)(k:Nat)(p q:PV):∃ fr wr,bh (CC L) run k 2 doC ⟨entry 25 [p,q],[],[]⟩=some ⟨fr,[],wr⟩∧fr.length=25∧nth fr 0=p∧nth fr 1=q∧nth fr 5 = .sc (.string ⟨#[48]⟩):=by
 obtain⟨e1,e2,e3⟩:=cb 23 p q
 generalize entry 25 [p,q]=fr0 at *
 simp[doC,f107,bh,and_assoc,e1,e2,e3]
theorem ajl(h0:fr.length=25):∃ fr',ae (CC L) run k (seq1 (seq1 (ai 2 doC))) ⟨fr,hp,wr⟩=some (.normal,⟨fr',hp,wr⟩)∧nth fr' 6=iv 0:=by
 simp[iv,seq1,ai,doC,f107,h0]
theorem acT(p:PV)(h0:fr.length=25)(h5:nth fr 5=p):∃ st,ae (CC L) run k (ai 3 doC) ⟨fr,hp,wr⟩=some (.ret,st)∧aY TT st.fr st.hp f107.results.toList=some [p]:=by
 simp[doC,ai,f107,h0,h5]
def aj3 (p:VV):Prop:=RbL 10000 p.1∧RbL 10000 p.2∧p.1.length=p.2.length∧p.1.length≤10
def doF:Ψ→Option Ψ:=ctr (fun p:VV=>[qL p.1,qL p.2]) aj3 fun p=>[qt (dot p.1 p.2)]
theorem agl {k:Nat}{P Q:List Rat}(hP:RbL k P)(hQ:RbL k Q)(hl:P.length=Q.length)(j:Nat)(hj:j≤P.length)(h9:j≤10):Rb (20*k+11) (Ce P Q j):=by
 refine (LN hP hQ hl j hj).mono ?_
 have:j*(2*k+1)≤10*(2*k+1):=Nat.mul_le_mul_right _ h9
 omega
theorem acS:Ab.Spec base.P 107 doF:=Ab.Spec.bL (C:=CC LYa) (cP XQ) fun args rs h=>by
 obtain⟨⟨P,Q⟩,⟨hP,hQ,hl,h9⟩,rfl,rfl⟩:=cX h
 dsimp only at hP hQ hl h9
 obtain⟨fr1,wr1,a1,a2,a3,a4,a5⟩:=agn LYa (runK (CC LYa) 200) 200 (qL P) (qL Q)
 obtain⟨fr2,b1,b2⟩:=ajl LYa (runK (CC LYa) 200) 200 fr1 [] wr1 a2
 have K2:=aP _ b1
 have i5:nth fr2 5 = .sc (.string ⟨#[48]⟩):=K2.at a5
 obtain⟨fr3,hp3,wr3,c1,c2,c3⟩:=Lp.go (C:=CC LYa) (run:=runK (CC LYa) 200) (k:=200) (l:=pf doB) (body:=cI doB) (m:=25) (B:=doB) rfl (by kernel_rfl) (by kernel_rfl) (by kernel_rfl) ahE (n:=P.length) (j0:=0) (by omega) (by omega) (by omega)
  (J:=fun j f hp=>f 5=qt (Ce P Q j)) (fr0:=fr2) (hp0:=[]) (wr0:=wr1) (p:=qL P) (K2.len a2) (K2.at a3) (xJ P) b2
  (fun j f g hp h hJ=>by rw[← h 5 (by kernel_rfl)];exact hJ)
  (fun j fr hp wr _ hj hK hij hJ=>by
   have bx:=hP P[j] (getElem_mem _)
   have by':=hQ (Q[j]'(by omega)) (getElem_mem _)
   have bs':=agl hP hQ hl j (by omega) (by omega)
   obtain⟨fr',wr',x1,x2⟩:=Wn LYa (runK (CC LYa) 200) 200 fr hp wr P Q j (qb (Ce P Q j)) (qb (P[j]*Q[j]'(by omega))) (qb (Ce P Q j+P[j]*Q[j]'(by omega))) hj (by omega) (ahf rfl _ bx by' (by omega)) (ajH rfl _ bs' (bx.mul by') (by omega)) (hK.len (K2.len a2)) (hK.at (K2.at a3)) (hK.at (K2.at a4)) hJ hij
   refine⟨fr',hp,wr',x1,?_⟩
   rw[x2]
   show _=qt (Ce P Q j+P.getD j 0*Q.getD j 0)
   rw[mB hj,mB (by omega)]
   rfl)
  (by rw[i5];exact congrArg (fun s=>PV.sc (.string s)) qb0.symm)
 obtain⟨st,d1,d3⟩:=acT LYa (runK (CC LYa) 200) 200 fr3 hp3 wr3 _ (c2.len (K2.len a2)) c3
 have hx:ae (CC LYa) (runK (CC LYa) 200) 200 doC ⟨entry 25 [qL P,qL Q],[],[]⟩=some (.ret,st):=by
  have hs:ae (CC LYa) (runK (CC LYa) 200) 200 (.seq (seq1 (seq1 (ai 2 doC))) (.block 0 (.loop doB))) ⟨fr1,[],wr1⟩=some (.normal,⟨fr3,hp3,wr3⟩):=by rw[ao b1];exact c1
  rw[aU 2 a1,akj,ao hs];exact d1
 exact⟨_,_,_,_,[qt (dot P Q)],[],aZ Gk rfl hx d3,rfl,Wk.refl rfl,trivial⟩
theorem akt {L:Lst}(hL:bC L 107=fun a=>doF (aK a))(run:av)(P Q:List Rat){j:Nat}(hP:RbL j P)(hQ:RbL j Q)(hj:j≤10000)(hl:P.length=Q.length)(h9:P.length≤10):aA L run 107 [qL P,qL Q] (qt (dot P Q)) :=
 gi MU (e:=fun p:VV=>[qL p.1,qL p.2]) (f:=fun p=>[qt (dot p.1 p.2)]) hL (fun x y _ _ h=>by rw[Be h]) run (P,Q) ⟨fun x hx=>(hP x hx).mono hj,fun x hx=>(hQ x hx).mono hj,hl,h9⟩ (fun _=>rfl) (tp P Q)
theorem aik (X:List Rat):qL X = .imm X.length false (X.map qt):=by
 have e:∀ X:List Rat,(X.map qb).flatMap es=X.map qt:=fun X=>by
  induction X with
  | nil=>rfl
  | cons a X ih=>rw[map_cons,flatMap_cons,ih];rfl
 unfold qL pE jM
 rw[e,length_map]
def Rst (hp:Θ)(rows:List (List Rat))(p:PV):Prop:=(rows=[]∧p = .sc (.slice none 0 0))∨∃ id ps,p = .own id 1 0 rows.length false∧aX hp id=some ⟨.live,ps⟩∧ps.length=rows.length∧∀ t (h:t<rows.length),∃ r,r≠id∧ps[t]?=some (.own r 1 0 rows[t].length false)∧aX hp r=some ⟨.live,rows[t].map qt⟩
theorem Rst.app {hp hp3:Θ}{rows:List (List Rat)}{p:PV}{X:List Rat}{r:Nat}(h:Rst hp rows p)(hg:Hgr hp hp3)(hr:hp.length≤r)(hX:aX hp3 r=some ⟨.live,X.map qt⟩)(h9:rows.length≤1000):∃ p' hp4 fp4,cU hp3 1 p 1 [.own r 1 0 X.length false]=some (p',hp4,fp4)∧Rst hp4 (rows++[X]) p':=by
 have hrl:=gp hX
 rcases h with ⟨rfl,rfl⟩| ⟨id,ps,rfl,h1,h2,h3⟩
 ·refine⟨.own hp3.length 1 0 1 false,bd hp3 [.own r 1 0 X.length false],⟨[],[hp3.length],true,false⟩,by simp[cU,cW],.inr ⟨hp3.length,_,rfl,al1 _ _,rfl,fun t ht => ?_⟩⟩
  have e:t=0:=by simp at ht;omega
  subst e
  exact⟨r,by omega,rfl,by rw[bP,if_neg (by omega)];exact hX⟩
 ·have hid:=gp h1
  have h1':aX hp3 id=some ⟨.live,ps⟩:=by rw[hg.2 id hid,h1]
  have ht:bF (bz ps 0) (rows.length*1)=some ps:=by rw[cD,drop_zero,Nat.mul_one,dk (by omega),← h2,take_length]
  have hm:rows.length+1≤cW:=Nat.le_trans (Nat.succ_le_succ h9) (by decide)
  have hl:hp3.length=(cF hp3 id ⟨.dead,[]⟩).length:=(bQ _ _ _).symm
  refine⟨.own hp3.length 1 0 (rows.length+1) false,bd (cF hp3 id ⟨.dead,[]⟩) (ps++[.own r 1 0 X.length false]),⟨[],[id,hp3.length],true,false⟩,?_,.inr ⟨hp3.length,ps++[.own r 1 0 X.length false],by simp,?_,by simp[h2],fun t ht => ?_⟩⟩
  ·simp only[cU,h1']
   rw[if_neg (by simp),ht]
   simp only
   rw[if_pos hm]
  ·rw[hl];exact al1 _ _
  ·by_cases e:t<rows.length
   ·obtain⟨q,q1,q2,q3⟩:=h3 t e
    have hq:=gp q3
    have hgl:=hg.1
    refine⟨q,by omega,by rw[getElem?_append_left (by omega),getElem_append_left e];exact q2,?_⟩
    rw[getElem_append_left e,bP,if_neg (by rw[← hl];omega),wu h1' q1,hg.2 q hq,q3]
   ·have e2:t=rows.length:=by simp at ht;omega
    subst e2
    refine⟨r,by omega,by rw[getElem?_append_right (by omega),h2];simp,?_⟩
    rw[bP,if_neg (by rw[← hl];omega),wu h1' (by omega),hX]
    simp
def SqM (n:Nat)(M:List (List Rat)):Prop:=M.length=n∧∀ R ∈ M,R.length=n∧RbL 1000 R
theorem SqM.hd {n k:Nat}{M:List (List Rat)}(h:SqM (n+1) M):Rb 1000 ((M.headD []).getD k 0):=by
 cases M with
 | nil=>exact (Rb.zero 0).mono (by omega)
 | cons R M=>exact (h.2 R mem_cons_self).2.at (by omega) k
theorem Ri(d r:Nat)(X:List Rat)(h:aX hp r=some ⟨.live,X.map qt⟩):snap hp (d+2) (.own r 1 0 X.length false)=some (qL X,[r]):=by
 have hs:Sc1 qt:=fun x=>.inr (.inl ⟨_,rfl⟩)
 have ht:bF (bz (X.map qt) 0) (X.length*1)=some (X.map qt):=by rw[cD,drop_zero,Nat.mul_one,dk (by simp),take_of_length_le (by simp)]
 rw[snap]
 simp only[h]
 rw[if_neg (by simp),ht]
 simp only[hs.C5 hp d X,aik]
theorem zu (hp:Θ)(d:Nat):∀ (rows:List (List Rat)) (ps:Ψ),ps.length=rows.length→(∀ t (h:t<rows.length),∃ r,ps[t]?=some (.own r 1 0 rows[t].length false)∧aX hp r=some ⟨.live,rows[t].map qt⟩)→∃ ids,bu (snap hp (d+2)) ps=some (rows.map qL,ids)
 | [],[],_,_=>⟨[],rfl⟩
 | X::rows,p::ps,hl,h=>by
  obtain⟨r,h1,h2⟩:=h 0 (by simp)
  have h1':p = .own r 1 0 X.length false:=by simpa using h1
  obtain⟨ids,ih⟩:=zu hp d rows ps (by simpa using hl) (fun t ht=>by
   obtain⟨r,q1,q2⟩:=h (t+1) (by simpa using ht)
   exact⟨r,by simpa using q1,by simpa using q2⟩)
  refine⟨[r]++ids,?_⟩
  subst h1'
  simp only[bu,Ri hp d r X h2,ih,map_cons]
 | [],_::_,hl,_=>by simp at hl
 | _::_,[],hl,_=>by simp at hl
theorem ail (M:List (List Rat)):qC M = .imm M.length false (M.map qL):=by
 have e:∀ M:List (List Rat),(M.map fun P=>P.map qb).flatMap ep=M.map qL:=fun M=>by
  induction M with
  | nil=>rfl
  | cons a M ih=>rw[map_cons,flatMap_cons,ih];rfl
 unfold qC cE jM
 rw[e,length_map]
theorem Rst.snap {hp:Θ}{rows:List (List Rat)}{p:PV}(h:Rst hp rows p):∃ q ids,bu (Ab.snap hp bn) [p]=some ([q],ids)∧aK [q]=[qC rows]:=by
 rcases h with ⟨rfl,rfl⟩| ⟨id,ps,rfl,h1,h2,h3⟩
 ·exact⟨.sc (.slice none 0 0),[],rfl,rfl⟩
 ·obtain⟨ids,hi⟩:=zu hp 9 rows ps h2 (fun t ht=>by
   obtain⟨r,-,q1,q2⟩:=h3 t ht
   exact⟨r,q1,q2⟩)
  have ht:bF (bz ps 0) (rows.length*1)=some ps:=by rw[cD,drop_zero,Nat.mul_one,dk (by omega),← h2,take_length]
  have hs:Ab.snap hp 12 (.own id 1 0 rows.length false)=some (qC rows,id::ids):=by
   rw[Ab.snap]
   simp only[h1]
   rw[if_neg (by simp),ht]
   simp only[hi,ail]
  refine⟨qC rows,id::ids++[],?_,by simp only[aK,qC,lO]⟩
  show bu (Ab.snap hp 12) _=_
  simp only[bu,hs]
theorem SqM.m0 {n:Nat}{M:List (List Rat)}(h:SqM (n+1) M):∃ hM:0<M.length,M[0].length=n+1∧M.headD []=M[0]:=by
 have hM:0<M.length:=by rw[h.1];omega
 exact⟨hM,(h.2 _ (getElem_mem hM)).1,by cases M with | nil=>simp at hM | cons=>rfl⟩
theorem ajW:qt 0 = .sc (.string ⟨#[48]⟩):=congrArg (fun s=>PV.sc (.string s)) qb0
theorem aem:∃ el,und TT 24=some (.slice el):=⟨_,mZ⟩
def LLi:Lst:=[(22,Jk)]
theorem ag8:dt base.P LLi:=⟨zL,trivial⟩
theorem adH(v:PV):eY hp 1 (.imm 1 true [v])=some (1,[v],[]):=by simp[eY]
theorem SJ (x:Rat):fI x 0=Bx x:=by rw[SI];congr 1;grind
theorem CD:base.F.get 76=some f76:=by kernel_rfl
theorem G9:base.shared 76=false:=by kernel_rfl
theorem Gi:base.F.get 132=some f132:=by kernel_rfl
theorem MQ:base.shared 132=false:=by kernel_rfl
abbrev P2:=Rat × Rat
def q2 (p:P2):PV:=qL [p.1,p.2]
theorem BQ {p q:P2}(h:q2 p=q2 q):p=q:=by
 have:=xf h
 simp only[List.cons.injEq,and_true] at this
 exact Prod.ext this.1 this.2
theorem VF (p:P2):∃ r s,bc TT 39 (q2 p) (.sc (.int .i64 0))=some (.iptr r)∧r.head?=some (qt p.1)∧bc TT 39 (q2 p) (.sc (.int .i64 1))=some (.iptr s)∧s.head?=some (qt p.2):=by
 obtain⟨r,a,b⟩:=AA [p.1,p.2] 0 (by simp)
 obtain⟨s,c,d⟩:=AA [p.1,p.2] 1 (by simp)
 exact⟨r,s,a,b,c,d⟩
def Rb2 (k:Nat)(p:P2):Prop:=Rb k p.1∧Rb k p.2
def fk (a b p:P2):Int:=fI ((b.1 - a.1)*(p.2 - a.2)) ((b.2 - a.2)*(p.1 - a.1))
def LZa:Lst:=[(70,mnF),(34,wJ),(26,cmF)]
theorem ag0:dt base.P LZa:=⟨Lf,zM,Cj,trivial⟩
theorem YN(a b p:P2)(t1 t2 t3 t4 t5 t6:ByteArray)(s:Int)(g1:aA L run 70 [qt b.1,qt a.1] (.sc (.string t1)))(g2:aA L run 70 [qt p.2,qt a.2] (.sc (.string t2)))(g3:aA L run 34 [.sc (.string t1),.sc (.string t2)] (.sc (.string t3)))(g4:aA L run 70 [qt b.2,qt a.2] (.sc (.string t4)))(g5:aA L run 70 [qt p.1,qt a.1] (.sc (.string t5)))(g6:aA L run 34 [.sc (.string t4),.sc (.string t5)] (.sc (.string t6)))(g7:aA L run 26 [.sc (.string t3),.sc (.string t6)] (Ab.bJ s)) :
  ∃ st,ae (CC L) run k (f76.body.getD .skip) ⟨entry 42 [q2 a,q2 b,q2 p],[],[]⟩=some (.ret,st)∧aY TT st.fr st.hp f76.results.toList=some [Ab.bJ s]:=by
 obtain⟨e1,e2,e3,e4⟩:=Cc 39 (q2 a) (q2 b) (q2 p)
 generalize entry 42 [q2 a,q2 b,q2 p]=fr0 at *
 obtain⟨ra,sa,a1,a2,a3,a4⟩:=VF a
 obtain⟨rb,sb,b1,b2,b3,b4⟩:=VF b
 obtain⟨rp,sp,p1,p2,p3,p4⟩:=VF p
 unfold aA at *
 unfold qt at *
 generalize q2 a=A at *
 generalize q2 b=B at *
 generalize q2 p=P at *
 simp[f76,partOf,bf,e1,e2,e3,e4,a1,a2,a3,a4,b1,b2,b3,b4,p1,p2,p3,p4,g1,g2,g3,g4,g5,g6,g7,iJ,gN,aV,number,FP.free]
abbrev P23:=P2 × P2 × P2
def e3p (p:P23):Ψ:=[q2 p.1,q2 p.2.1,q2 p.2.2]
theorem LL {p q:P23}(h:e3p p=e3p q):p=q:=by
 simp only[e3p,List.cons.injEq,and_true] at h
 exact Prod.ext (BQ h.1) (Prod.ext (BQ h.2.1) (BQ h.2.2))
def afn (k:Nat)(p:P23):Prop:=Rb2 k p.1∧Rb2 k p.2.1∧Rb2 k p.2.2
def tuF:Ψ→Option Ψ:=ctr e3p (afn 2000) fun p=>[Ab.bJ (fk p.1 p.2.1 p.2.2)]
theorem Bi:Ab.Spec base.P 76 tuF:=Ab.Spec.bL (C:=CC LZa) (cP ag0) fun args rs h=>by
 obtain⟨⟨a,b,p⟩,⟨⟨ha1,ha2⟩,⟨hb1,hb2⟩,hp1,hp2⟩,rfl,rfl⟩:=cX h
 dsimp only at ha1 ha2 hb1 hb2 hp1 hp2
 obtain⟨st,c1,c2⟩:=YN LZa (runK (CC LZa) 200) 200 a b p _ _ _ _ _ _ _ (XZ rfl _ hb1 ha1 (by omega) (by omega)) (XZ rfl _ hp2 ha2 (by omega) (by omega)) (ahf rfl _ (hb1.sub ha1) (hp2.sub ha2) (by omega)) (XZ rfl _ hb2 ha2 (by omega) (by omega)) (XZ rfl _ hp1 ha1 (by omega) (by omega)) (ahf rfl _ (hb2.sub ha2) (hp1.sub ha1) (by omega)) (ads rfl _ ((hb1.sub ha1).mul (hp2.sub ha2)) ((hb2.sub ha2).mul (hp1.sub ha1)) (by omega) (by omega))
 exact⟨_,_,_,_,_,_,aZ CD rfl c1 c2,rfl,Wk.refl rfl,trivial⟩
theorem A2 (p:P23):aK (e3p p)=e3p p:=by simp only[e3p,aK,q2,qL,pE,Fs.yZ]
theorem ahe {L:Lst}(hL:bC L 76=fun a=>tuF (aK a))(run:av){k:Nat}{a b p:P2}(ha:Rb2 k a)(hb:Rb2 k b)(hp:Rb2 k p)(hk:k≤2000):aA L run 76 [q2 a,q2 b,q2 p] (Ab.bJ (fk a b p)) :=
 gi G9 (e:=e3p) (f:=fun p=>[Ab.bJ (fk p.1 p.2.1 p.2.2)]) hL (fun x y _ _ h=>by rw[LL h]) run (a,b,p) ⟨⟨ha.1.mono hk,ha.2.mono hk⟩,⟨hb.1.mono hk,hb.2.mono hk⟩,hp.1.mono hk,hp.2.mono hk⟩ (fun _=>rfl) (A2 (a,b,p))
def Hg (a b p:P2):Rat:=(a.1 - p.1)*(b.1 - p.1)+(a.2 - p.2)*(b.2 - p.2)
def Cn (a b p:P2):Bool:=decide (fk a b p=0) && decide (Bx (Hg a b p)≤0)
theorem XH(a b p u v:PV)(s r:Int)(t:ByteArray)(g1:aA L run 76 [a,b,p] (Ab.bJ s))(g2:aA L run 57 [a,p] u)(g3:aA L run 57 [b,p] v)(g4:aA L run 107 [u,v] (.sc (.string t)))(g5:aA L run 26 [.sc (.string t),.sc (.string ⟨#[48]⟩)] (Ab.bJ r)) :
  ∃ st,ae (CC L) run k (f132.body.getD .skip) ⟨entry 21 [a,b,p],[],[]⟩=some (.ret,st)∧aY TT st.fr st.hp f132.results.toList=some [.sc (.bool (decide (s=0) && decide (r≤0)))]:=by
 obtain⟨e1,e2,e3,e4⟩:=Cc 18 a b p
 generalize entry 21 [a,b,p]=fr0 at *
 unfold aA at *
 unfold Ab.bJ at *
 by_cases h:s=0
 ·simp[f132,ba,aw,bg,e1,e2,e3,e4,g1,g2,g3,g4,g5,h]
 ·have hb:(s != 0)=true:=by simpa using h
  simp[f132,ba,aw,bg,e1,e2,e3,e4,g1,h,hb]
def LZb:Lst:=[(76,tuF),(57,suF),(107,doF),(26,cmF)]
theorem agZ:dt base.P LZb:=⟨Bi,YS,acS,Cj,trivial⟩
def beF:Ψ→Option Ψ:=ctr e3p (afn 1000) fun p=>[.sc (.bool (Cn p.1 p.2.1 p.2.2))]
theorem adj:Ab.Spec base.P 132 beF:=Ab.Spec.bL (C:=CC LZb) (cP agZ) fun args rs h=>by
 obtain⟨⟨a,b,p⟩,⟨⟨ha1,ha2⟩,⟨hb1,hb2⟩,hp1,hp2⟩,rfl,rfl⟩:=cX h
 dsimp only at ha1 ha2 hb1 hb2 hp1 hp2
 have hq:∀ {k:Nat} {x y:Rat},Rb k x→Rb k y→RbL k [x,y]:=fun hx hy z hz=>by
  simp only[mem_cons,not_mem_nil,or_false] at hz
  rcases hz with rfl | rfl
  ·exact hx
  ·exact hy
 have g5:=ads (L:=LZb) rfl (runK (CC LZb) 200) (((((ha1.sub hp1).mul (hb1.sub hp1)).add ((ha2.sub hp2).mul (hb2.sub hp2))).mono (k:=100000) (by omega))) (Rb.zero 0) (by omega) (by omega)
 rw[SJ,ajW] at g5
 have ed:dot (kn [a.1,a.2] [p.1,p.2]) (kn [b.1,b.2] [p.1,p.2])=Hg a b p:=by
  simp[dot,Ce,kn,Hg]
  try grind
 have g4:=akt (L:=LZb) rfl (runK (CC LZb) 200) (kn [a.1,a.2] [p.1,p.2]) (kn [b.1,b.2] [p.1,p.2]) (j:=10000) (hq ((ha1.sub hp1).mono (by omega)) ((ha2.sub hp2).mono (by omega))) (hq ((hb1.sub hp1).mono (by omega)) ((hb2.sub hp2).mono (by omega))) (by omega) rfl (by simp[kn])
 rw[ed] at g4
 obtain⟨st,c1,c2⟩:=XH LZb (runK (CC LZb) 200) 200 (q2 a) (q2 b) (q2 p) _ _ _ _ _ (ahe rfl _ ⟨ha1,ha2⟩ ⟨hb1,hb2⟩ ⟨hp1,hp2⟩ (by omega)) (ajD rfl _ [a.1,a.2] [p.1,p.2] (hq ha1 ha2) (hq hp1 hp2) (by omega) (by omega) (by simp) (by simp)) (ajD rfl _ [b.1,b.2] [p.1,p.2] (hq hb1 hb2) (hq hp1 hp2) (by omega) (by omega) (by simp) (by simp)) g4 g5
 exact⟨_,_,_,_,_,_,aZ Gi rfl c1 c2,rfl,Wk.refl rfl,trivial⟩
theorem aku {L:Lst}(hL:bC L 132=fun a=>beF (aK a))(run:av){k:Nat}{a b p:P2}(ha:Rb2 k a)(hb:Rb2 k b)(hp:Rb2 k p)(hk:k≤1000):aA L run 132 [q2 a,q2 b,q2 p] (.sc (.bool (Cn a b p))) :=
 gi MQ (e:=e3p) (f:=fun p=>[.sc (.bool (Cn p.1 p.2.1 p.2.2))]) hL (fun x y _ _ h=>by rw[LL h]) run (a,b,p) ⟨⟨ha.1.mono hk,ha.2.mono hk⟩,⟨hb.1.mono hk,hb.2.mono hk⟩,hp.1.mono hk,hp.2.mono hk⟩ (fun _=>rfl) (A2 (a,b,p))
theorem yK:und TT 22=some (.slice 39):=by kernel_rfl
theorem QO:∃ el,und TT 22=some (.slice el):=⟨_,yK⟩
def agQ (b:Nat)(hp:Θ)(X:List Rat)(p:PV):Prop:=(X=[]∧p = .sc (.slice none 0 0))∨∃ id,b≤id∧p = .own id 1 0 X.length false∧aX hp id=some ⟨.live,X.map qt⟩
theorem agQ.app {b:Nat}{hp:Θ}{X:List Rat}{p:PV}(h:agQ b hp X p)(hb:b≤hp.length)(x:Rat)(h9:X.length≤1000):∃ p' hp' fp,cU hp 1 p 1 [qt x]=some (p',hp',fp)∧agQ b hp' (X++[x]) p'∧(∀ i,i<b→aX hp' i=aX hp i)∧hp.length≤hp'.length:=by
 rcases h with ⟨rfl,rfl⟩| ⟨id,h1,rfl,h2⟩
 ·exact⟨.own hp.length 1 0 1 false,bd hp [qt x],⟨[],[hp.length],true,false⟩,by simp[cU,cW],.inr ⟨hp.length,hb,rfl,al1 _ _⟩,fun i hi=>by rw[bP,if_neg (by omega)],by simp[bd]⟩
 ·have hid:=gp h2
  have ht:bF (bz (X.map qt) 0) (X.length*1)=some (X.map qt):=by rw[cD,drop_zero,Nat.mul_one,dk (by simp),take_of_length_le (by simp)]
  have hm:X.length+1≤cW:=Nat.le_trans (Nat.succ_le_succ h9) (by decide)
  have hl:hp.length=(cF hp id ⟨.dead,[]⟩).length:=(bQ _ _ _).symm
  refine⟨.own hp.length 1 0 (X.length+1) false,bd (cF hp id ⟨.dead,[]⟩) (X.map qt++[qt x]),⟨[],[id,hp.length],true,false⟩,?_,.inr ⟨hp.length,hb,by simp,?_⟩,fun i hi => ?_,by simp[bd,bQ]⟩
  ·simp only[cU,h2]
   rw[if_neg (by simp),ht]
   simp only
   rw[if_pos hm]
  ·rw[hl,map_append];exact al1 _ _
  ·rw[bP,if_neg (by rw[← hl];omega),wu h2 (by omega)]
end Go.Proofs.YtjdmodeenbdfpaaGreat
end
