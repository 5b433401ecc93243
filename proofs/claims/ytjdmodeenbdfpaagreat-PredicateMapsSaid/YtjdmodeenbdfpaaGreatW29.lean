/- Ranks by elimination and by minors, part 29; each lemma states its conditions. -/
import Derived.Test.YtjdmodeenbdfpaaGreatW28
import Derived.Test.YtjdmodeenbdfpaaGreatW09
set_option linter.unusedSimpArgs false
set_option linter.unusedVariables false
noncomputable section
namespace Go.Proofs.YtjdmodeenbdfpaaGreat
open Go Go.Ab List Tryz
attribute [local simp] FzZ aA aC aF aG aH aa ab ae af ah ai aj an ao aq av bn seq1
theorem wu {kk n:Nat}{P V:List Rat}(hP:P.length=n)(hV:V.length=n):Red kk P V (DU kk P V):=by
 intro i
 unfold DU
 split
 ·rename_i h
  rw[h,Rat.div_def,Rat.zero_mul,Rat.zero_mul,Rat.sub_eq_add_neg,Rat.neg_zero,Rat.add_zero]
 ·generalize V.getD kk 0 / P.getD kk 0=f
  by_cases hi:i<n
  ·have h3:i<(CW f V P).length:=by rw[vH (by omega)];omega
   rw[rm h3,QE (by omega) (by omega) h3,rm (X:=V) (by omega),rm (X:=P) (by omega)]
  ·rw[vr (by rw[vH (by omega)];omega),vr (X:=V) (by omega),vr (X:=P) (by omega)]
   grind
def tl (N r:Nat)(g:Nat→List Rat):List (List Rat):=(List.range (N - r)).map fun t=>g (r+t)
theorem sU {N r:Nat}{g:Nat→List Rat}{X:List Rat} : X ∈ tl N r g ↔ ∃ t,r≤t∧t<N∧g t=X:=by
 unfold tl
 rw[mem_map]
 constructor
 ·rintro⟨t,ht,rfl⟩
  rw[mem_range] at ht
  exact⟨r+t,by omega,by omega,rfl⟩
 ·rintro⟨t,h1,h2,rfl⟩
  exact⟨t - r,by rw[mem_range];omega,by rw[show r+(t - r)=t by omega]⟩
def swG (g:Nat→List Rat)(r j t:Nat):List Rat:=if t=r+j then g r else if t=r then g (r+j) else g t
structure RkI (M0:List (List Rat)) (n N kk r:Nat) (bb:Nat) (g:Nat→List Rat):Prop where
 rk:rkM M0=r+rkM (tl N r g)
 le:r≤N
 ln:∀ t,t<N→(g t).length=n∧RbL bb (g t)
 z:∀ t,r≤t→t<N→∀ c,c<kk→(g t).getD c 0=0
theorem RkI.skip {M0:List (List Rat)}{n N kk r bb:Nat}{g:Nat→List Rat}(h:RkI M0 n N kk r bb g)(hz:∀ t,t<N - r→(g (r+t)).getD kk 0=0):RkI M0 n N (kk+1) r (4*bb+1) g where
 rk:=h.rk
 le:=h.le
 ln:=fun t ht=>⟨(h.ln t ht).1,fun x hx=>((h.ln t ht).2 x hx).mono (by omega)⟩
 z:=fun t h1 h2 c hc=>by
  by_cases e:c=kk
  ·subst e
   have:=hz (t - r) (by omega)
   rwa [show r+(t - r)=t by omega] at this
  ·exact h.z t h1 h2 c (by omega)
theorem JU {g:Nat→List Rat}{r j N t:Nat}(hj:j<N - r)(h1:r<t)(h2:t<N):∃ s,r≤s∧s<N∧s≠r+j∧swG g r j t=g s:=by
 unfold swG
 by_cases e:t=r+j
 ·rw[if_pos e]
  by_cases e0:j=0
  ·omega
  ·exact⟨r,by omega,by omega,by omega,rfl⟩
 ·rw[if_neg e,if_neg (by omega)]
  exact⟨t,by omega,h2,e,rfl⟩
theorem QT {g:Nat→List Rat}{r j N s:Nat}(hj:j<N - r)(h1:r≤s)(h2:s<N)(hs:s≠r+j):∃ t,r<t∧t<N∧swG g r j t=g s:=by
 unfold swG
 by_cases e:s=r
 ·exact⟨r+j,by omega,by omega,by rw[if_pos rfl,e]⟩
 ·exact⟨s,by omega,h2,by rw[if_neg hs,if_neg e]⟩
theorem RkI.step {M0:List (List Rat)}{n N kk r bb j:Nat}{g:Nat→List Rat}(h:RkI M0 n N kk r bb g)(hn:n≤3)(hkk:kk<n)(hj:j<N - r)(hp:(g (r+j)).getD kk 0≠0):RkI M0 n N (kk+1) (r+1) (4*bb+1) (Sl kk (r+1) (N - (r+1)) (g (r+j)) (swG g r j)):=by
 have hP:=h.ln (r+j) (by omega)
 have hsw:∀ t,t<N→∃ s,s<N∧swG g r j t=g s:=by
  intro t ht
  unfold swG
  split
  ·exact⟨r,by omega,rfl⟩
  ·split
   ·exact⟨r+j,by omega,rfl⟩
   ·exact⟨t,ht,rfl⟩
 have hred:∀ t,r+1≤t→t<N→Sl kk (r+1) (N - (r+1)) (g (r+j)) (swG g r j) t=DU kk (g (r+j)) (swG g r j t):=by
  intro t h1 h2
  unfold Sl
  rw[if_pos ⟨h1,by omega⟩]
 have hE:tA kk (g (r+j)) (tl N r g) (tl N (r+1) (Sl kk (r+1) (N - (r+1)) (g (r+j)) (swG g r j))):=by
  refine⟨sU.2 ⟨r+j,by omega,by omega,rfl⟩,hp,fun R hR => ?_,fun S hS => ?_⟩
  ·obtain⟨t,h1,h2,rfl⟩:=sU.1 hR
   obtain⟨s,s1,s2,-,s4⟩:=JU (g:=g) hj (show r<t by omega) h2
   rw[hred t h1 h2,s4]
   exact⟨g s,sU.2 ⟨s,s1,s2,rfl⟩,wu hP.1 (h.ln s s2).1⟩
  ·obtain⟨s,h1,h2,rfl⟩:=sU.1 hS
   by_cases e:s=r+j
   ·left;rw[e]
   ·right
    obtain⟨t,t1,t2,t3⟩:=QT (g:=g) hj h1 h2 e
    refine⟨_,sU.2 ⟨t,by omega,t2,rfl⟩,?_⟩
    rw[hred t (by omega) t2,t3]
    exact wu hP.1 (h.ln s h2).1
 refine⟨by rw[h.rk,hE.rk (by omega)];omega,by omega,fun t ht => ?_,fun t h1 h2 c hc => ?_⟩
 ·obtain⟨s,s1,s2⟩:=hsw t ht
  have hs:=h.ln s s1
  unfold Sl
  split
  ·rw[s2]
   exact⟨Sj hP.1 hs.1,Zi (by omega) (by omega) hp hP.2 hs.2⟩
  ·rw[s2]
   exact⟨hs.1,fun x hx=>(hs.2 x hx).mono (by omega)⟩
 ·obtain⟨s,s1,s2,-,s4⟩:=JU (g:=g) hj (show r<t by omega) h2
  rw[hred t h1 h2,s4]
  have hd:=wu (kk:=kk) hP.1 (h.ln s s2).1
  by_cases e:c=kk
  ·subst e
   exact hd.zero hp
  ·rw[hd c,h.z s s1 s2 c (by omega),h.z (r+j) (by omega) (by omega) c (by omega)]
   grind
theorem RkI.done {M0:List (List Rat)}{n N r bb:Nat}{g:Nat→List Rat}(h:RkI M0 n N n r bb g):rkM M0=r:=by
 rw[h.rk]
 have : ¬ Q1 (tl N r g):=by
  rintro⟨a,ha,hi⟩
  obtain⟨t,t1,t2,rfl⟩:=sU.1 ha
  have z:∀ c,(g t).getD c 0=0:=fun c=>by
   by_cases e:c<n
   ·exact h.z t t1 t2 c e
   ·exact vr (by rw[(h.ln t t2).1];omega)
  unfold nz at hi
  rw[z,z,z] at hi
  grind
 rw[Sb this];rfl
theorem Hex.frame {a b:Θ}{w i:Nat}{x:Blk}(h:Hex a b w)(hi:aP a i=some x)(hw:i≠w):aP b i=some x:=by rw[h.2 i (jo hi) hw,hi]
theorem fr0:FP.free ⟨[],[],false,false⟩=true:=rfl
theorem ahH (X:List Rat):qL X = .imm X.length false (X.map qt):=by
 have e:∀ X:List Rat,(X.map qb).flatMap es=X.map qt:=fun X=>by
  induction X with
  | nil=>rfl
  | cons a X ih=>rw[map_cons,flatMap_cons,ih];rfl
 unfold qL pE dj
 rw[e,length_map]
def Rst (hp:Θ)(rows:List (List Rat))(p:PV):Prop:=(rows=[]∧p = .sc (.slice none 0 0))∨∃ id ps,p = .own id 1 0 rows.length false∧aP hp id=some ⟨.live,ps⟩∧ps.length=rows.length∧∀ t (h:t<rows.length),∃ r,r≠id∧ps[t]?=some (.own r 1 0 rows[t].length false)∧aP hp r=some ⟨.live,rows[t].map qt⟩
theorem Rst.app {hp hp3:Θ}{rows:List (List Rat)}{p:PV}{X:List Rat}{r:Nat}(h:Rst hp rows p)(hg:Hgr hp hp3)(hr:hp.length≤r)(hX:aP hp3 r=some ⟨.live,X.map qt⟩)(h9:rows.length≤1000):∃ p' hp4 fp4,cw hp3 1 p 1 [.own r 1 0 X.length false]=some (p',hp4,fp4)∧Rst hp4 (rows++[X]) p':=by
 have hrl:=jo hX
 rcases h with ⟨rfl,rfl⟩| ⟨id,ps,rfl,h1,h2,h3⟩
 ·refine⟨.own hp3.length 1 0 1 false,aL hp3 [.own r 1 0 X.length false],⟨[],[hp3.length],true,false⟩,by simp[cw,cN],.inr ⟨hp3.length,_,rfl,al1 _ _,rfl,fun t ht => ?_⟩⟩
  have e:t=0:=by simp at ht;omega
  subst e
  exact⟨r,by omega,rfl,by rw[bz,if_neg (by omega)];exact hX⟩
 ·have hid:=jo h1
  have h1':aP hp3 id=some ⟨.live,ps⟩:=by rw[hg.2 id hid,h1]
  have ht:bD (bq ps 0) (rows.length*1)=some ps:=by rw[cA,drop_zero,Nat.mul_one,dc (by omega),← h2,take_length]
  have hm:rows.length+1≤cN:=Nat.le_trans (Nat.succ_le_succ h9) (by decide)
  have hl:hp3.length=(bZ hp3 id ⟨.dead,[]⟩).length:=(bC _ _ _).symm
  refine⟨.own hp3.length 1 0 (rows.length+1) false,aL (bZ hp3 id ⟨.dead,[]⟩) (ps++[.own r 1 0 X.length false]),⟨[],[id,hp3.length],true,false⟩,?_,.inr ⟨hp3.length,ps++[.own r 1 0 X.length false],by simp,?_,by simp[h2],fun t ht => ?_⟩⟩
  ·simp only[cw,h1']
   rw[if_neg (by simp),ht]
   simp only
   rw[if_pos hm]
  ·rw[hl];exact al1 _ _
  ·by_cases e:t<rows.length
   ·obtain⟨q,q1,q2,q3⟩:=h3 t e
    have hq:=jo q3
    have hgl:=hg.1
    refine⟨q,by omega,by rw[getElem?_append_left (by omega),getElem_append_left e];exact q2,?_⟩
    rw[getElem_append_left e,bz,if_neg (by rw[← hl];omega),iX h1' q1,hg.2 q hq,q3]
   ·have e2:t=rows.length:=by simp at ht;omega
    subst e2
    refine⟨r,by omega,by rw[getElem?_append_right (by omega),h2];simp,?_⟩
    rw[bz,if_neg (by rw[← hl];omega),iX h1' (by omega),hX]
    simp
def SqM (n:Nat)(M:List (List Rat)):Prop:=M.length=n∧∀ R ∈ M,R.length=n∧RbL 1000 R
theorem SqM.hd {n k:Nat}{M:List (List Rat)}(h:SqM (n+1) M):Rb 1000 ((M.headD []).getD k 0):=by
 cases M with
 | nil=>exact (Rb.zero 0).mono (by omega)
 | cons R M=>exact (h.2 R mem_cons_self).2.at (by omega) k
theorem Q5 (hp:Θ)(d r:Nat)(X:List Rat)(h:aP hp r=some ⟨.live,X.map qt⟩):snap hp (d+2) (.own r 1 0 X.length false)=some (qL X,[r]):=by
 have hs:Sc1 qt:=fun x=>.inr (.inl ⟨_,rfl⟩)
 have ht:bD (bq (X.map qt) 0) (X.length*1)=some (X.map qt):=by rw[cA,drop_zero,Nat.mul_one,dc (by simp),take_of_length_le (by simp)]
 rw[snap]
 simp only[h]
 rw[if_neg (by simp),ht]
 simp only[hs.Dj hp d X,ahH]
theorem zi (hp:Θ)(d:Nat):∀ (rows:List (List Rat)) (ps:Ψ),ps.length=rows.length→(∀ t (h:t<rows.length),∃ r,ps[t]?=some (.own r 1 0 rows[t].length false)∧aP hp r=some ⟨.live,rows[t].map qt⟩)→∃ ids,bj (snap hp (d+2)) ps=some (rows.map qL,ids)
 | [],[],_,_=>⟨[],rfl⟩
 | X::rows,p::ps,hl,h=>by
  obtain⟨r,h1,h2⟩:=h 0 (by simp)
  have h1':p = .own r 1 0 X.length false:=by simpa using h1
  obtain⟨ids,ih⟩:=zi hp d rows ps (by simpa using hl) (fun t ht=>by
   obtain⟨r,q1,q2⟩:=h (t+1) (by simpa using ht)
   exact⟨r,by simpa using q1,by simpa using q2⟩)
  refine⟨[r]++ids,?_⟩
  subst h1'
  simp only[bj,Q5 hp d r X h2,ih,map_cons]
 | [],_::_,hl,_=>by simp at hl
 | _::_,[],hl,_=>by simp at hl
theorem ahI (M:List (List Rat)):qC M = .imm M.length false (M.map qL):=by
 have e:∀ M:List (List Rat),(M.map fun P=>P.map qb).flatMap ep=M.map qL:=fun M=>by
  induction M with
  | nil=>rfl
  | cons a M ih=>rw[map_cons,flatMap_cons,ih];rfl
 unfold qC cE dj
 rw[e,length_map]
theorem Rst.snap {hp:Θ}{rows:List (List Rat)}{p:PV}(h:Rst hp rows p):∃ q ids,bj (Ab.snap hp bp) [p]=some ([q],ids)∧aJ [q]=[qC rows]:=by
 rcases h with ⟨rfl,rfl⟩| ⟨id,ps,rfl,h1,h2,h3⟩
 ·exact⟨.sc (.slice none 0 0),[],rfl,rfl⟩
 ·obtain⟨ids,hi⟩:=zi hp 9 rows ps h2 (fun t ht=>by
   obtain⟨r,-,q1,q2⟩:=h3 t ht
   exact⟨r,q1,q2⟩)
  have ht:bD (bq ps 0) (rows.length*1)=some ps:=by rw[cA,drop_zero,Nat.mul_one,dc (by omega),← h2,take_length]
  have hs:Ab.snap hp 12 (.own id 1 0 rows.length false)=some (qC rows,id::ids):=by
   rw[Ab.snap]
   simp only[h1]
   rw[if_neg (by simp),ht]
   simp only[hi,ahI]
  refine⟨qC rows,id::ids++[],?_,by simp only[aJ,qC,gj]⟩
  show bj (Ab.snap hp 12) _=_
  simp only[bj,hs]
theorem SqM.m0 {n:Nat}{M:List (List Rat)}(h:SqM (n+1) M):∃ hM:0<M.length,M[0].length=n+1∧M.headD []=M[0]:=by
 have hM:0<M.length:=by rw[h.1];omega
 exact⟨hM,(h.2 _ (getElem_mem hM)).1,by cases M with | nil=>simp at hM | cons=>rfl⟩
abbrev P2:=Rat × Rat
def q2 (p:P2):PV:=qL [p.1,p.2]
def agy (b:Nat)(hp:Θ)(X:List Rat)(p:PV):Prop:=(X=[]∧p = .sc (.slice none 0 0))∨∃ id,b≤id∧p = .own id 1 0 X.length false∧aP hp id=some ⟨.live,X.map qt⟩
theorem agy.app {b:Nat}{hp:Θ}{X:List Rat}{p:PV}(h:agy b hp X p)(hb:b≤hp.length)(x:Rat)(h9:X.length≤1000):∃ p' hp' fp,cw hp 1 p 1 [qt x]=some (p',hp',fp)∧agy b hp' (X++[x]) p'∧(∀ i,i<b→aP hp' i=aP hp i)∧hp.length≤hp'.length:=by
 rcases h with ⟨rfl,rfl⟩| ⟨id,h1,rfl,h2⟩
 ·exact⟨.own hp.length 1 0 1 false,aL hp [qt x],⟨[],[hp.length],true,false⟩,by simp[cw,cN],.inr ⟨hp.length,hb,rfl,al1 _ _⟩,fun i hi=>by rw[bz,if_neg (by omega)],by simp[aL]⟩
 ·have hid:=jo h2
  have ht:bD (bq (X.map qt) 0) (X.length*1)=some (X.map qt):=by rw[cA,drop_zero,Nat.mul_one,dc (by simp),take_of_length_le (by simp)]
  have hm:X.length+1≤cN:=Nat.le_trans (Nat.succ_le_succ h9) (by decide)
  have hl:hp.length=(bZ hp id ⟨.dead,[]⟩).length:=(bC _ _ _).symm
  refine⟨.own hp.length 1 0 (X.length+1) false,aL (bZ hp id ⟨.dead,[]⟩) (X.map qt++[qt x]),⟨[],[id,hp.length],true,false⟩,?_,.inr ⟨hp.length,hb,by simp,?_⟩,fun i hi => ?_,by simp[aL,bC]⟩
  ·simp only[cw,h2]
   rw[if_neg (by simp),ht]
   simp only
   rw[if_pos hm]
  ·rw[hl,map_append];exact al1 _ _
  ·rw[bz,if_neg (by rw[← hl];omega),iX h2 (by omega)]
theorem ahr:und TT 38=some (.slice 27):=by kernel_rfl
theorem afy (X:List Rat)(i:Nat)(hi:i<X.length):∃ r,aU TT 38 (qL X) (.sc (.int .i64 (i:Int)))=some (.iptr r)∧r.head?=some (.sc (.string (qb X[i]))):=by
 obtain⟨r,h1,h2⟩:=uv ahr (X.map qb) i (by simpa using hi)
 refine⟨r,h1,?_⟩
 rw[h2,getElem_map]
theorem PN:base.F.get 85=some f85:=by kernel_rfl
theorem YQ:base.shared 85=false:=by kernel_rfl
theorem Jz:base.F.get 84=some f84:=by kernel_rfl
theorem RC:base.shared 84=false:=by kernel_rfl
theorem acb (L:Lst)(run:aw)(k:Nat)(s:PV)(x:Rat)(g:az L run 108 [s] (.tup [rv (some x),.sc (.bool true)])) :
  ∃ st,af (CC L) run k (f85.body.getD .skip) ⟨entry 11 [s],[],[]⟩=some (.ret,st)∧bc TT st.fr st.hp f85.results.toList=some [rv (some x)]:=by
 obtain⟨e1,e2⟩:=cL 10 s
 generalize entry 11 [s]=fr0 at *
 rw[mg] at *
 have o1:=dH rz (rcs x) (by rw[cl.len];rfl)
 have t1:=dM (rcs x) (cl.len _)
 have ok1:=cl.okc x
 have l1:=cl.len x
 have zR':=zRz
 unfold az at g
 generalize rcs x=cx at *
 generalize rz=z at *
 simp[f85,aM,partOf,bf,bm,e1,e2,g,o1,t1,ok1,l1,zR',aL,aP,bZ,aR,sR,bq,aX,bc]
def WG:Ψ→Option Ψ:=ctr (fun x:Rat=>[qt x]) (Rb 1000) fun x=>[rv (some x)]
def LBa:Lst:=[(108,rrF)]
theorem agQ:dt base.P LBa:=⟨qJ,trivial⟩
theorem O8:Ab.Spec base.P 85 WG:=Ab.Spec.bN (C:=CC LBa) (cP agQ) fun args rs h=>by
 obtain⟨x,hx,rfl,rfl⟩:=cV h
 obtain⟨st,c1,c2⟩:=acb LBa (runK (CC LBa) 10) 10 (qt x) x (adi rfl _ hx (by omega))
 obtain⟨w1,w2⟩:∃ w,bj (snap st.hp bp) [rv (some x)]=some ([rv (some x)],w):=⟨[],(Rp.Dl (p:=rv (some x)) (u:=some x) (.inl rfl) st.hp)⟩
 exact⟨_,_,_,_,_,_,aV PN rfl c1 c2,w2,Wk.refl rfl,trivial⟩
theorem ZQ {x y:Rat}(h:[qt x]=[qt y]):x=y:=by
 simp only[qt,List.cons.injEq,PV.sc.injEq,Value.string.injEq,and_true] at h
 exact pI h
theorem ahe {L:Lst}(hL:bt L 85=fun a=>WG (aJ a))(run:aw)(x:Rat)(hx:Rb 1000 x):az L run 85 [qt x] (rv (some x)) :=
 fT YQ (e:=fun x:Rat=>[qt x]) (f:=fun x=>[rv (some x)]) hL (fun x y _ _ h=>by rw[ZQ h]) run x hx (fun _=>rfl) rfl
abbrev fnN:PV:=.sc (.func (.func 85) ⟨[]⟩ ⟨[]⟩)
def mnC:Code:=f84.body.getD .skip
def mnB:Code:=(aA mnC).getD .skip
def mnX:Code:=blk (seq1 (bn (bn mnB)))
def mnT:Code:=bn (bn mnC)
theorem afc:mnC = .seq (seq1 mnC) (.seq (seq1 (bn mnC)) (.seq (.seq (seq1 (seq1 mnT)) (.block 0 (.loop mnB))) (bn mnT))):=rfl
theorem UP:mnB = .seq (seq1 mnB) (.seq (.cond (.tmp 11) .skip (.exit 0)) (.seq (.block 1 mnX) (bn (bn (bn mnB))))):=rfl
theorem JP:und TT 83=some (.slice 72):=by kernel_rfl
theorem aft (x:Rat):eM TT 83 1 [(0,.agg (rcs x))]=some (4,rcs x):=by
 have h:=dH rz (rcs x) (by rw[cl.len];rfl)
 have e:rep 1 rz=rz:=by simp[rep]
 simp[eM,JP,sR,zRz,e,dq,PV.cells?,cl.len,h,show rz.length=4 from rfl]
theorem ahG (hp:Θ)(x:Rat):fk hp 4 (.imm 1 true (rcs x))=some (1,rcs x,[]):=by simp[fk,cl.len]
section
variable (L:Lst) (run:aw) (k:Nat) (fr:Ψ) (hp:Θ) (wr:Ω)
theorem ajD (p f:PV)(n:Nat)(hl:dy p=some n):∃ fr fr1 fr2,af (CC L) run k (seq1 mnC) ⟨entry 22 [p,f],[],[]⟩=some (.normal,⟨fr,[],[]⟩)∧af (CC L) run k (seq1 (bn mnC)) ⟨fr,[],[]⟩=some (.normal,⟨fr1,[],[]⟩)∧af (CC L) run k (seq1 (seq1 mnT)) ⟨fr1,[],[]⟩=some (.normal,⟨fr2,[],[]⟩)∧fr2.length=22∧nth fr2 1=f∧nth fr2 5 = .sc (.slice none 0 0)∧nth fr2 8=p∧nth fr2 9=iv n∧nth fr2 10=iv 0:=by
 obtain⟨e1,e2,e3⟩:=cC 20 p f
 generalize entry 22 [p,f]=fr0 at *
 obtain⟨fr,a1,a2,a3,a4⟩:∃ fr,af (CC L) run k (seq1 mnC) ⟨fr0,[],[]⟩=some (.normal,⟨fr,[],[]⟩)∧fr.length=22∧nth fr 0=p∧nth fr 1=f:=by
  simp[mnC,f84,e1,e2,e3]
 obtain⟨fr1,b1,b2,b3,b4,b5⟩:∃ fr1,af (CC L) run k (seq1 (bn mnC)) ⟨fr,[],[]⟩=some (.normal,⟨fr1,[],[]⟩)∧fr1.length=22∧nth fr1 0=p∧nth fr1 1=f∧nth fr1 5 = .sc (.slice none 0 0):=by
  simp[mnC,f84,a2,a3,a4]
 refine⟨fr,fr1,?_⟩
 simp only[a1,b1,true_and]
 simp[iv,mnT,mnC,f84,bL,bf,b2,b3,b4,b5,hl,ahr]
theorem aie (i n:Nat)(h0:fr.length=22)(h9:nth fr 9=iv n)(h10:nth fr 10=iv i):∃ fr',af (CC L) run k (seq1 mnB) ⟨fr,hp,wr⟩=some (.normal,⟨fr',hp,wr⟩)∧nth fr' 11 = .sc (.bool (decide (i<n))):=by
 obtain⟨u,hu⟩:∃ u,decide (i<n)=u:=⟨_,rfl⟩
 rw[hu]
 simp only[iv] at h9 h10
 cases u <;> simp only[decide_eq_true_eq,decide_eq_false_iff_not] at hu <;> simp[mnB,mnC,f84,aZ,au,bg,h0,h9,h10,hu]
theorem ajC (i:Nat)(h9:i<1000)(h0:fr.length=22)(h10:nth fr 10=iv i):∃ fr',af (CC L) run k (bn (bn (bn mnB))) ⟨fr,hp,wr⟩=some (.normal,⟨fr',hp,wr⟩)∧nth fr' 10=iv (i+1):=by
 have hw:=bA i (by omega)
 simp only[iv] at h10
 simp[iv,mnB,mnC,f84,aZ,au,bg,h0,h10,hw]
theorem ajB (q:PV)(h0:fr.length=22)(h5:nth fr 5=q):∃ st,af (CC L) run k (bn mnT) ⟨fr,hp,wr⟩=some (.ret,st)∧st.hp=hp∧bc TT st.fr st.hp f84.results.toList=some [q]:=by
 simp[mnT,mnC,f84,h0,h5,bc]
theorem ajA (X:List Rat)(i:Nat)(l:List Rat)(hi:i<X.length)(h9:l.length<1000)(hO:eP 4 rcs 0 hp l (nth fr 5))(g:az L run 85 [qt X[i]] (rv (some X[i])))(h0:fr.length=22)(h1:nth fr 1=fnN)(h8:nth fr 8=qL X)(h10:nth fr 10=iv i):∃ fr' hp' wr',af (CC L) run k mnX ⟨fr,hp,wr⟩=some (.normal,⟨fr',hp',wr'⟩)∧eP 4 rcs 0 hp' (l++[X[i]]) (nth fr' 5):=by
 obtain⟨r,x1,x2⟩:=afy X i hi
 rw[show (PV.sc (.string (qb X[i])))=qt X[i] from rfl] at x2
 obtain⟨p',hp',fp,a1,a2,-,-⟩:=hO.app cl.toEl [X[i]] (by simp) (by simp;omega)
 have e2:[X[i]].flatMap rcs=rcs X[i]:=by simp
 rw[e2,show [X[i]].length=1 from rfl] at a1
 have l1:=aft X[i]
 have r1:=fun hp=>ahG hp X[i]
 have k1:=cl.okc X[i]
 have i1:=cl.idf X[i]
 have hz:rz.length=4:=rfl
 have zR':=zRz
 rw[mg] at g
 unfold az at g
 generalize rcs X[i]=cx at *
 generalize qt X[i]=T at *
 simp only[iv] at h10
 simp[mnX,blk,mnB,mnC,f84,soft,eu,aM,partOf,bf,and_assoc,h0,h1,h8,h10,x1,x2,g,l1,r1,k1,i1,hz,zR',a1,a2,JP,sR,bR,pz,fV,bQ,aX]
end
def xy:Ψ→Option Ψ:=ctr (fun X:List Rat=>[qL X,fnN]) (fun X=>RbL 1000 X∧X.length≤100) fun X=>[vR X]
def LBb:Lst:=[(85,WG)]
theorem agP:dt base.P LBb:=⟨O8,trivial⟩
theorem sV:Ab.Spec base.P 84 xy:=Ab.Spec.bN (C:=CC LBb) (cP agP) fun args rs h=>by
 obtain⟨X,⟨hX,h9⟩,rfl,rfl⟩:=cV h
 obtain⟨fr,fr1,fr2,a1,a2,a3,a4,a5,a6,a7,a8,a9⟩:=ajD LBb (runK (CC LBb) 200) 200 (qL X) fnN X.length (Cd X)
 obtain⟨st,b1,b2,b3⟩:=xT (C:=CC LBb) (run:=runK (CC LBb) 200) (k:=200) (e:=0) (b:=mnB) (n:=X.length) (st:=⟨fr2,[],[]⟩)
  (Inv:=fun i st=>dJ (ct mnB) fr2 st.fr∧nth st.fr 10=iv i∧eP 4 rcs 0 st.hp (X.take i) (nth st.fr 5))
  (Q:=fun st=>eP 4 rcs 0 st.hp X (nth st.fr 5)∧st.fr.length=22) (by omega)
  (fun i st hi ⟨iK,i10,iO⟩=>by
   obtain⟨fr0,hp0,wr0⟩:=st
   dsimp only at iK i10 iO
   have l0:=iK.len a4
   obtain⟨fr3,c1,c2⟩:=aie LBb (runK (CC LBb) 200) 200 fr0 hp0 wr0 i X.length l0 (iK.at a8) i10
   rw[decide_eq_true hi] at c2
   have K1:=bG _ c1
   have e5:nth fr3 5=nth fr0 5:=K1.at rfl
   rw[← e5] at iO
   obtain⟨fr4,hp4,wr4,d1,d2⟩:=ajA LBb (runK (CC LBb) 200) 200 fr3 hp0 wr0 X i _ hi (by rw[length_take];omega) iO (ahe rfl _ _ (hX _ (getElem_mem hi))) (K1.len l0) (K1.at (iK.at a5)) (K1.at (iK.at a7)) (K1.at i10)
   have K2:=bG _ d1
   have d1':af (CC LBb) (runK (CC LBb) 200) 200 (.block 1 mnX) ⟨fr3,hp0,wr0⟩=some (.normal,⟨fr4,hp4,wr4⟩):=by simp only[af,d1]
   obtain⟨fr5,g1,g2⟩:=ajC LBb (runK (CC LBb) 200) 200 fr4 hp4 wr4 i (by omega) (K2.len (K1.len l0)) (K2.at (K1.at i10))
   have K3:=bG _ g1
   have x3:af (CC LBb) (runK (CC LBb) 200) 200 (.cond (.tmp 11) .skip (.exit 0)) ⟨fr3,hp0,wr0⟩=some (.normal,⟨fr3,hp0,wr0⟩):=by simp[c2]
   have hr:af (CC LBb) (runK (CC LBb) 200) 200 mnB ⟨fr0,hp0,wr0⟩=some (.normal,⟨fr5,hp4,wr4⟩):=by
    rw[UP,ar c1,ar x3,ar d1',g1]
   exact⟨_,hr,iK.trans (bG _ hr),g2,by
    show eP 4 rcs 0 hp4 _ (nth fr5 5)
    rw[take_succ_eq_append_getElem hi,K3.at rfl];exact d2⟩)
  (fun st ⟨iK,i10,iO⟩=>by
   obtain⟨fr0,hp0,wr0⟩:=st
   dsimp only at iK i10 iO
   obtain⟨fr3,c1,c2⟩:=aie LBb (runK (CC LBb) 200) 200 fr0 hp0 wr0 X.length X.length (iK.len a4) (iK.at a8) i10
   rw[decide_eq_false (by omega)] at c2
   have K1:=bG _ c1
   refine⟨⟨fr3,hp0,wr0⟩,?_,?_,K1.len (iK.len a4)⟩
   ·have x3:af (CC LBb) (runK (CC LBb) 200) 200 (.cond (.tmp 11) .skip (.exit 0)) ⟨fr3,hp0,wr0⟩=some (.exit 0,⟨fr3,hp0,wr0⟩):=by simp[c2]
    rw[UP,ar c1,af,x3]
   ·rw[take_length] at iO
    show eP 4 rcs 0 hp0 _ (nth fr3 5)
    rw[K1.at rfl]
    exact iO)
  ⟨dJ.refl _ _,a9,by
   show eP 4 rcs 0 [] [] (nth fr2 5)
   rw[a6];exact eP.nil (Nat.le_refl _)⟩
 obtain⟨fr3,hp3,wr3⟩:=st
 dsimp only at b2 b3
 obtain⟨st',c1,c2,c3⟩:=ajB LBb (runK (CC LBb) 200) 200 fr3 hp3 wr3 _ b3 rfl
 have hs:af (CC LBb) (runK (CC LBb) 200) 200 (.seq (seq1 (seq1 mnT)) (.block 0 (.loop mnB))) ⟨fr1,[],[]⟩=some (.normal,⟨fr3,hp3,wr3⟩):=by rw[ar a3];exact b1
 have hx:af (CC LBb) (runK (CC LBb) 200) 200 mnC ⟨entry 22 [qL X,fnN],[],[]⟩=some (.ret,st'):=by
  rw[afc,ar a1,ar a2,ar hs];exact c1
 obtain⟨rs,ids,d1,d2⟩:=qX cl.toEl b2
 exact⟨_,_,_,_,rs,ids,aV Jz rfl hx c3,by rw[c2];exact d1,d2⟩
theorem Jg {L:Lst}(hL:bt L 84=fun a=>xy (aJ a))(run:aw)(X:List Rat)(hX:RbL 1000 X)(h9:X.length≤100):az L run 84 [qL X,fnN] (vR X) :=
 fT RC (e:=fun X:List Rat=>[qL X,fnN]) (f:=fun X=>[vR X]) hL (fun x y _ _ h=>by
  simp only[List.cons.injEq,and_true] at h
  rw[BZ (X:=x) (Y:=y) (by rw[h])]) run X ⟨hX,h9⟩ (fun _=>rfl) (by simp only[aJ,qL,kA];rfl)
theorem JA:base.F.get 135=some f135:=by kernel_rfl
theorem RD:base.shared 135=false:=by kernel_rfl
theorem Jx:base.F.get 83=some f83:=by kernel_rfl
theorem RA:base.shared 83=false:=by kernel_rfl
theorem Gh:base.F.get 136=some f136:=by kernel_rfl
theorem MG:base.shared 136=true:=by kernel_rfl
def eVr (V:List Rat):Ψ:=[vR V]
theorem Fv:El 1 eVr where
 len:=fun _=>rfl
 okc:=fun _=>rfl
 idf:=fun _=>rfl
 sn:=fun _ _ _=>rfl
theorem sf:und TT 109=some (.slice 83):=by kernel_rfl
theorem zw:de TT 83=some 1:=by kernel_rfl
theorem ada:fQ TT 83=some 24:=by kernel_rfl
theorem P4:eB TT 83=some [.sc (.slice none 0 0)]:=by kernel_rfl
theorem Y1:de TT 38=some 1:=by kernel_rfl
theorem ac2 {t:Nat}(hu:und TT t=some (.slice 38))(c:List (List ByteArray))(i:Nat)(hi:i<c.length):∃ r,aU TT t (cE c) (.sc (.int .i64 (i:Int)))=some (.iptr r)∧r.head?=some (pE c[i]):=by
 have h:=jT abT.toEl c i hi
 refine⟨bq (c.flatMap ep) (i*1),?_,by rw[h];rfl⟩
 unfold cE dj
 simp only[aU,hu,bh,Y1,hi,if_true]
theorem Vn (v:PV)(hv:v.cells?=some [v]):eM TT 109 1 [(0,v)]=some (1,[v]):=by
 simp[eM,sf,zw,P4,rep,dq,hv,cm]
abbrev Iz:PV:=.sc (.func (.func 136) ⟨[]⟩ ⟨[]⟩)
theorem uLm:und TT 55=some (.slice 38):=by kernel_rfl
theorem aLm:fq TT 38=some false:=by kernel_rfl
theorem sLm:de TT 38=some 1:=by kernel_rfl
theorem Tz (L:Lst)(run:aw)(k:Nat)(hp:Θ)(V r:PV)(g:az L run 84 [V,fnN] r):∃ st,af (CC L) run k (f136.body.getD .skip) ⟨entry 5 [V],hp,[]⟩=some (.ret,st)∧st.hp=hp∧st.wr=[]∧bc TT st.fr st.hp f136.results.toList=some [r]:=by
 obtain⟨e1,e2⟩:=cL 4 V
 generalize entry 5 [V]=fr0 at *
 unfold az at g
 simp[f136,aM,e1,e2,g,bc]
theorem TA {L:Lst}(hL:bt L 84=fun a=>xy (aJ a))(k:Nat)(V:List Rat)(hV:RbL 1000 V)(h9:V.length≤100)(dr:Bool)(hp:Θ):bU (CC L) (runK (CC L) (k+1)) dr hp 136 [qL V]=some (vR V,hp,⟨[],[],true,true⟩):=by
 obtain⟨st,x1,x2,x3,x4⟩:=Tz L (runK (CC L) k) k hp (qL V) (vR V) (Jg hL _ V hV h9)
 have:=kW Gh rfl x1 x4
 rw[x2,x3] at this
 exact qF MG this rfl dr
def nP:Code:=f135.body.getD .skip
def rj:Code:=(aA nP).getD .skip
def aaP:Code:=blk (seq1 (bn (bn rj)))
def H8:Code:=bn (bn nP)
theorem aaQ:nP = .seq (seq1 nP) (.seq (seq1 (bn nP)) (.seq (.seq (seq1 (seq1 H8)) (.block 0 (.loop rj))) (bn H8))):=rfl
theorem KS:rj = .seq (seq1 rj) (.seq (.cond (.tmp 11) .skip (.exit 0)) (.seq (.block 1 aaP) (bn (bn (bn rj))))):=rfl
section
variable (L:Lst) (run:aw) (k:Nat) (fr:Ψ) (hp:Θ) (wr:Ω)
theorem ahY (p f:PV)(n:Nat)(hl:dy p=some n):∃ fr fr1 fr2,af (CC L) run k (seq1 nP) ⟨entry 22 [p,f],[],[]⟩=some (.normal,⟨fr,[],[]⟩)∧af (CC L) run k (seq1 (bn nP)) ⟨fr,[],[]⟩=some (.normal,⟨fr1,[],[]⟩)∧af (CC L) run k (seq1 (seq1 H8)) ⟨fr1,[],[]⟩=some (.normal,⟨fr2,[],[]⟩)∧fr2.length=22∧nth fr2 1=f∧nth fr2 5 = .sc (.slice none 0 0)∧nth fr2 8=p∧nth fr2 9=iv n∧nth fr2 10=iv 0:=by
 obtain⟨e1,e2,e3⟩:=cC 20 p f
 generalize entry 22 [p,f]=fr0 at *
 obtain⟨fr,a1,a2,a3,a4⟩:∃ fr,af (CC L) run k (seq1 nP) ⟨fr0,[],[]⟩=some (.normal,⟨fr,[],[]⟩)∧fr.length=22∧nth fr 0=p∧nth fr 1=f:=by
  simp[nP,f135,e1,e2,e3]
 obtain⟨fr1,b1,b2,b3,b4,b5⟩:∃ fr1,af (CC L) run k (seq1 (bn nP)) ⟨fr,[],[]⟩=some (.normal,⟨fr1,[],[]⟩)∧fr1.length=22∧nth fr1 0=p∧nth fr1 1=f∧nth fr1 5 = .sc (.slice none 0 0):=by
  simp[nP,f135,a2,a3,a4]
 refine⟨fr,fr1,?_⟩
 simp only[a1,b1,true_and]
 simp[iv,H8,nP,f135,bL,bf,b2,b3,b4,b5,hl,uLm]
theorem acZ (i n:Nat)(h0:fr.length=22)(h9:nth fr 9=iv n)(h10:nth fr 10=iv i):∃ fr',af (CC L) run k (seq1 rj) ⟨fr,hp,wr⟩=some (.normal,⟨fr',hp,wr⟩)∧nth fr' 11 = .sc (.bool (decide (i<n))):=by
 obtain⟨u,hu⟩:∃ u,decide (i<n)=u:=⟨_,rfl⟩
 rw[hu]
 simp only[iv] at h9 h10
 cases u <;> simp only[decide_eq_true_eq,decide_eq_false_iff_not] at hu <;> simp[rj,nP,f135,aZ,au,bg,h0,h9,h10,hu]
theorem ahX (i:Nat)(h9:i<1000)(h0:fr.length=22)(h10:nth fr 10=iv i):∃ fr',af (CC L) run k (bn (bn (bn rj))) ⟨fr,hp,wr⟩=some (.normal,⟨fr',hp,wr⟩)∧nth fr' 10=iv (i+1):=by
 have hw:=bA i (by omega)
 simp only[iv] at h10
 simp[iv,rj,nP,f135,aZ,au,bg,h0,h10,hw]
theorem ahW (q:PV)(h0:fr.length=22)(h5:nth fr 5=q):∃ st,af (CC L) run k (bn H8) ⟨fr,hp,wr⟩=some (.ret,st)∧st.hp=hp∧bc TT st.fr st.hp f135.results.toList=some [q]:=by
 simp[H8,nP,f135,h0,h5,bc]
theorem ahV (X:List (List Rat))(i:Nat)(l:List (List Rat))(hi:i<X.length)(h9:l.length<1000)(hO:eP 1 eVr 0 hp l (nth fr 5))(g:∀ dr hp,bU (CC L) run dr hp 136 [qL X[i]]=some (vR X[i],hp,⟨[],[],true,true⟩))(h0:fr.length=22)(h1:nth fr 1=Iz)(h8:nth fr 8=qC X)(h10:nth fr 10=iv i):∃ fr' hp' wr',af (CC L) run k aaP ⟨fr,hp,wr⟩=some (.normal,⟨fr',hp',wr'⟩)∧eP 1 eVr 0 hp' (l++[X[i]]) (nth fr' 5):=by
 obtain⟨r,x1,x2⟩:=ac2 uLm (X.map fun P=>P.map qb) i (by simpa using hi)
 rw[show cE (X.map fun P=>P.map qb)=qC X from rfl] at x1
 rw[getElem_map] at x2
 replace x2:r.head?=some (qL X[i]):=x2
 obtain⟨p',hp',fp,a1,a2,-,-⟩:=hO.app Fv [X[i]] (by simp) (by simp;omega)
 have e2:[X[i]].flatMap eVr=[vR X[i]]:=rfl
 rw[e2,show [X[i]].length=1 from rfl] at a1
 have hc:(vR X[i]).cells?=some [vR X[i]]:=rfl
 have l1:=Vn (vR X[i]) hc
 have r1:=fun hp=>Zl hp (vR X[i])
 have k1:dK (vR X[i])=true:=rfl
 have i1:(vR X[i]).cF=true:=rfl
 generalize vR X[i]=W at *
 generalize qL X[i]=T at *
 simp only[iv] at h10
 simp[aaP,blk,rj,nP,f135,soft,eu,aM,partOf,bf,and_assoc,bd,h0,h1,h8,h10,x1,x2,g,l1,r1,k1,i1,a1,a2,sf,zw,ada,P4,aLm,sLm,bQ,bM,aX]
end
def Z3 (X:List (List Rat)):Prop:=(∀ V ∈ X,RbL 1000 V∧V.length≤100)∧X.length≤100
def UR:Ψ→Option Ψ:=ctr (fun X:List (List Rat)=>[qC X,Iz]) Z3 fun X=>[dj eVr X]
def LBL:Lst:=[(84,xy)]
theorem agS:dt base.P LBL:=⟨sV,trivial⟩
theorem On:Ab.Spec base.P 135 UR:=Ab.Spec.bN (C:=CC LBL) (cP agS) fun args rs h=>by
 obtain⟨X,⟨hX,h9⟩,rfl,rfl⟩:=cV h
 obtain⟨fr,fr1,fr2,a1,a2,a3,a4,a5,a6,a7,a8,a9⟩:=ahY LBL (runK (CC LBL) 200) 200 (qC X) Iz X.length (xE X)
 obtain⟨st,b1,b2,b3⟩:=xT (C:=CC LBL) (run:=runK (CC LBL) 200) (k:=200) (e:=0) (b:=rj) (n:=X.length) (st:=⟨fr2,[],[]⟩)
  (Inv:=fun i st=>dJ (ct rj) fr2 st.fr∧nth st.fr 10=iv i∧eP 1 eVr 0 st.hp (X.take i) (nth st.fr 5))
  (Q:=fun st=>eP 1 eVr 0 st.hp X (nth st.fr 5)∧st.fr.length=22) (by omega)
  (fun i st hi ⟨iK,i10,iO⟩=>by
   obtain⟨fr0,hp0,wr0⟩:=st
   dsimp only at iK i10 iO
   have l0:=iK.len a4
   obtain⟨fr3,c1,c2⟩:=acZ LBL (runK (CC LBL) 200) 200 fr0 hp0 wr0 i X.length l0 (iK.at a8) i10
   rw[decide_eq_true hi] at c2
   have K1:=bG _ c1
   have e5:nth fr3 5=nth fr0 5:=K1.at rfl
   rw[← e5] at iO
   have hXi:=hX _ (getElem_mem hi)
   obtain⟨fr4,hp4,wr4,d1,d2⟩:=ahV LBL (runK (CC LBL) 200) 200 fr3 hp0 wr0 X i _ hi (by rw[length_take];omega) iO (TA rfl 199 _ hXi.1 hXi.2) (K1.len l0) (K1.at (iK.at a5)) (K1.at (iK.at a7)) (K1.at i10)
   have K2:=bG _ d1
   have d1':af (CC LBL) (runK (CC LBL) 200) 200 (.block 1 aaP) ⟨fr3,hp0,wr0⟩=some (.normal,⟨fr4,hp4,wr4⟩):=by simp only[af,d1]
   obtain⟨fr5,g1,g2⟩:=ahX LBL (runK (CC LBL) 200) 200 fr4 hp4 wr4 i (by omega) (K2.len (K1.len l0)) (K2.at (K1.at i10))
   have K3:=bG _ g1
   have x3:af (CC LBL) (runK (CC LBL) 200) 200 (.cond (.tmp 11) .skip (.exit 0)) ⟨fr3,hp0,wr0⟩=some (.normal,⟨fr3,hp0,wr0⟩):=by simp[c2]
   have hr:af (CC LBL) (runK (CC LBL) 200) 200 rj ⟨fr0,hp0,wr0⟩=some (.normal,⟨fr5,hp4,wr4⟩):=by
    rw[KS,ar c1,ar x3,ar d1',g1]
   exact⟨_,hr,iK.trans (bG _ hr),g2,by
    show eP 1 eVr 0 hp4 _ (nth fr5 5)
    rw[take_succ_eq_append_getElem hi,K3.at rfl];exact d2⟩)
  (fun st ⟨iK,i10,iO⟩=>by
   obtain⟨fr0,hp0,wr0⟩:=st
   dsimp only at iK i10 iO
   obtain⟨fr3,c1,c2⟩:=acZ LBL (runK (CC LBL) 200) 200 fr0 hp0 wr0 X.length X.length (iK.len a4) (iK.at a8) i10
   rw[decide_eq_false (by omega)] at c2
   have K1:=bG _ c1
   refine⟨⟨fr3,hp0,wr0⟩,?_,?_,K1.len (iK.len a4)⟩
   ·have x3:af (CC LBL) (runK (CC LBL) 200) 200 (.cond (.tmp 11) .skip (.exit 0)) ⟨fr3,hp0,wr0⟩=some (.exit 0,⟨fr3,hp0,wr0⟩):=by simp[c2]
    rw[KS,ar c1,af,x3]
   ·rw[take_length] at iO
    show eP 1 eVr 0 hp0 _ (nth fr3 5)
    rw[K1.at rfl]
    exact iO)
  ⟨dJ.refl _ _,a9,by
   show eP 1 eVr 0 [] [] (nth fr2 5)
   rw[a6];exact eP.nil (Nat.le_refl _)⟩
 obtain⟨fr3,hp3,wr3⟩:=st
 dsimp only at b2 b3
 obtain⟨st',c1,c2,c3⟩:=ahW LBL (runK (CC LBL) 200) 200 fr3 hp3 wr3 _ b3 rfl
 have hs:af (CC LBL) (runK (CC LBL) 200) 200 (.seq (seq1 (seq1 H8)) (.block 0 (.loop rj))) ⟨fr1,[],[]⟩=some (.normal,⟨fr3,hp3,wr3⟩):=by rw[ar a3];exact b1
 have hx:af (CC LBL) (runK (CC LBL) 200) 200 nP ⟨entry 22 [qC X,Iz],[],[]⟩=some (.ret,st'):=by
  rw[aaQ,ar a1,ar a2,ar hs];exact c1
 obtain⟨rs,ids,d1,d2⟩:=qX Fv b2
 exact⟨_,_,_,_,rs,ids,aV JA rfl hx c3,by rw[c2];exact d1,d2⟩
theorem aha {L:Lst}(hL:bt L 135=fun a=>UR (aJ a))(run:aw)(X:List (List Rat))(h:Z3 X):az L run 135 [qC X,Iz] (dj eVr X) :=
 fT RD (e:=fun X:List (List Rat)=>[qC X,Iz]) (f:=fun X=>[dj eVr X]) hL (fun x y _ _ h=>by
  simp only[List.cons.injEq,and_true] at h
  rw[pJ h]) run X h (fun _=>rfl) (by simp only[aJ,qC,gj];rfl)
theorem Us (L:Lst)(run:aw)(k:Nat)(V r:PV)(g:az L run 135 [V,Iz] r):∃ st,af (CC L) run k (f83.body.getD .skip) ⟨entry 5 [V],[],[]⟩=some (.ret,st)∧st.hp=[]∧bc TT st.fr st.hp f83.results.toList=some [r]:=by
 obtain⟨e1,e2⟩:=cL 4 V
 generalize entry 5 [V]=fr0 at *
 unfold az at g
 simp[f83,aM,e1,e2,g,bc]
def Uq:Ψ→Option Ψ:=ctr (fun X:List (List Rat)=>[qC X]) Z3 fun X=>[dj eVr X]
def LCL:Lst:=[(135,UR)]
theorem agM:dt base.P LCL:=⟨On,trivial⟩
theorem Oc:Ab.Spec base.P 83 Uq:=Ab.Spec.bN (C:=CC LCL) (cP agM) fun args rs h=>by
 obtain⟨X,hX,rfl,rfl⟩:=cV h
 obtain⟨st,c1,c2,c3⟩:=Us LCL (runK (CC LCL) 10) 10 (qC X) _ (aha rfl _ X hX)
 exact⟨_,_,_,_,[dj eVr X],[]++[],aV Jx rfl c1 c3,by rw[c2];rfl,Wk.refl rfl,trivial⟩
theorem ag8 {L:Lst}(hL:bt L 83=fun a=>Uq (aJ a))(run:aw)(X:List (List Rat))(h:Z3 X):az L run 83 [qC X] (dj eVr X) :=
 fT RA (e:=fun X:List (List Rat)=>[qC X]) (f:=fun X=>[dj eVr X]) hL (fun x y _ _ h=>by
  simp only[List.cons.injEq,and_true] at h
  rw[pJ h]) run X h (fun _=>rfl) (by simp only[aJ,qC,gj])
theorem Jy:base.F.get 137=some f137:=by kernel_rfl
theorem RB:base.shared 137=false:=by kernel_rfl
theorem Jw:base.F.get 86=some f86:=by kernel_rfl
theorem Rz:base.shared 86=false:=by kernel_rfl
theorem Gg:base.F.get 138=some f138:=by kernel_rfl
theorem MF:base.shared 138=true:=by kernel_rfl
abbrev Iy:PV:=.sc (.func (.func 138) ⟨[]⟩ ⟨[]⟩)
theorem uPm:und TT 22=some (.slice 39):=by kernel_rfl
theorem aPm:fq TT 39=some false:=by kernel_rfl
theorem sPm:de TT 39=some 1:=by kernel_rfl
theorem Tx (L:Lst)(run:aw)(k:Nat)(hp:Θ)(V r:PV)(g:az L run 84 [V,fnN] r):∃ st,af (CC L) run k (f138.body.getD .skip) ⟨entry 5 [V],hp,[]⟩=some (.ret,st)∧st.hp=hp∧st.wr=[]∧bc TT st.fr st.hp f138.results.toList=some [r]:=by
 obtain⟨e1,e2⟩:=cL 4 V
 generalize entry 5 [V]=fr0 at *
 unfold az at g
 simp[f138,aM,e1,e2,g,bc]
theorem Ty {L:Lst}(hL:bt L 84=fun a=>xy (aJ a))(k:Nat)(V:List Rat)(hV:RbL 1000 V)(h9:V.length≤100)(dr:Bool)(hp:Θ):bU (CC L) (runK (CC L) (k+1)) dr hp 138 [qL V]=some (vR V,hp,⟨[],[],true,true⟩):=by
 obtain⟨st,x1,x2,x3,x4⟩:=Tx L (runK (CC L) k) k hp (qL V) (vR V) (Jg hL _ V hV h9)
 have:=kW Gg rfl x1 x4
 rw[x2,x3] at this
 exact qF MF this rfl dr
def nO:Code:=f137.body.getD .skip
def rh:Code:=(aA nO).getD .skip
def aaN:Code:=blk (seq1 (bn (bn rh)))
def H7:Code:=bn (bn nO)
theorem aaO:nO = .seq (seq1 nO) (.seq (seq1 (bn nO)) (.seq (.seq (seq1 (seq1 H7)) (.block 0 (.loop rh))) (bn H7))):=rfl
theorem KR:rh = .seq (seq1 rh) (.seq (.cond (.tmp 11) .skip (.exit 0)) (.seq (.block 1 aaN) (bn (bn (bn rh))))):=rfl
section
variable (L:Lst) (run:aw) (k:Nat) (fr:Ψ) (hp:Θ) (wr:Ω)
theorem ahU (p f:PV)(n:Nat)(hl:dy p=some n):∃ fr fr1 fr2,af (CC L) run k (seq1 nO) ⟨entry 22 [p,f],[],[]⟩=some (.normal,⟨fr,[],[]⟩)∧af (CC L) run k (seq1 (bn nO)) ⟨fr,[],[]⟩=some (.normal,⟨fr1,[],[]⟩)∧af (CC L) run k (seq1 (seq1 H7)) ⟨fr1,[],[]⟩=some (.normal,⟨fr2,[],[]⟩)∧fr2.length=22∧nth fr2 1=f∧nth fr2 5 = .sc (.slice none 0 0)∧nth fr2 8=p∧nth fr2 9=iv n∧nth fr2 10=iv 0:=by
 obtain⟨e1,e2,e3⟩:=cC 20 p f
 generalize entry 22 [p,f]=fr0 at *
 obtain⟨fr,a1,a2,a3,a4⟩:∃ fr,af (CC L) run k (seq1 nO) ⟨fr0,[],[]⟩=some (.normal,⟨fr,[],[]⟩)∧fr.length=22∧nth fr 0=p∧nth fr 1=f:=by
  simp[nO,f137,e1,e2,e3]
 obtain⟨fr1,b1,b2,b3,b4,b5⟩:∃ fr1,af (CC L) run k (seq1 (bn nO)) ⟨fr,[],[]⟩=some (.normal,⟨fr1,[],[]⟩)∧fr1.length=22∧nth fr1 0=p∧nth fr1 1=f∧nth fr1 5 = .sc (.slice none 0 0):=by
  simp[nO,f137,a2,a3,a4]
 refine⟨fr,fr1,?_⟩
 simp only[a1,b1,true_and]
 simp[iv,H7,nO,f137,bL,bf,b2,b3,b4,b5,hl,uPm]
theorem acY (i n:Nat)(h0:fr.length=22)(h9:nth fr 9=iv n)(h10:nth fr 10=iv i):∃ fr',af (CC L) run k (seq1 rh) ⟨fr,hp,wr⟩=some (.normal,⟨fr',hp,wr⟩)∧nth fr' 11 = .sc (.bool (decide (i<n))):=by
 obtain⟨u,hu⟩:∃ u,decide (i<n)=u:=⟨_,rfl⟩
 rw[hu]
 simp only[iv] at h9 h10
 cases u <;> simp only[decide_eq_true_eq,decide_eq_false_iff_not] at hu <;> simp[rh,nO,f137,aZ,au,bg,h0,h9,h10,hu]
theorem ahT (i:Nat)(h9:i<1000)(h0:fr.length=22)(h10:nth fr 10=iv i):∃ fr',af (CC L) run k (bn (bn (bn rh))) ⟨fr,hp,wr⟩=some (.normal,⟨fr',hp,wr⟩)∧nth fr' 10=iv (i+1):=by
 have hw:=bA i (by omega)
 simp only[iv] at h10
 simp[iv,rh,nO,f137,aZ,au,bg,h0,h10,hw]
theorem ahS (q:PV)(h0:fr.length=22)(h5:nth fr 5=q):∃ st,af (CC L) run k (bn H7) ⟨fr,hp,wr⟩=some (.ret,st)∧st.hp=hp∧bc TT st.fr st.hp f137.results.toList=some [q]:=by
 simp[H7,nO,f137,h0,h5,bc]
theorem ahR (X:List (List Rat))(i:Nat)(l:List (List Rat))(hi:i<X.length)(h9:l.length<1000)(hO:eP 1 eVr 0 hp l (nth fr 5))(g:∀ dr hp,bU (CC L) run dr hp 138 [qL X[i]]=some (vR X[i],hp,⟨[],[],true,true⟩))(h0:fr.length=22)(h1:nth fr 1=Iy)(h8:nth fr 8=qC X)(h10:nth fr 10=iv i):∃ fr' hp' wr',af (CC L) run k aaN ⟨fr,hp,wr⟩=some (.normal,⟨fr',hp',wr'⟩)∧eP 1 eVr 0 hp' (l++[X[i]]) (nth fr' 5):=by
 obtain⟨r,x1,x2⟩:=iJ uPm (X.map fun P=>P.map qb) i (by simpa using hi)
 rw[show cE (X.map fun P=>P.map qb)=qC X from rfl] at x1
 rw[getElem_map] at x2
 replace x2:r.head?=some (qL X[i]):=x2
 obtain⟨p',hp',fp,a1,a2,-,-⟩:=hO.app Fv [X[i]] (by simp) (by simp;omega)
 have e2:[X[i]].flatMap eVr=[vR X[i]]:=rfl
 rw[e2,show [X[i]].length=1 from rfl] at a1
 have hc:(vR X[i]).cells?=some [vR X[i]]:=rfl
 have l1:=Vn (vR X[i]) hc
 have r1:=fun hp=>Zl hp (vR X[i])
 have k1:dK (vR X[i])=true:=rfl
 have i1:(vR X[i]).cF=true:=rfl
 generalize vR X[i]=W at *
 generalize qL X[i]=T at *
 simp only[iv] at h10
 simp[aaN,blk,rh,nO,f137,soft,eu,aM,partOf,bf,and_assoc,bd,h0,h1,h8,h10,x1,x2,g,l1,r1,k1,i1,a1,a2,sf,zw,ada,P4,aPm,sPm,bQ,bM,aX]
end
def Z2 (X:List (List Rat)):Prop:=(∀ V ∈ X,RbL 1000 V∧V.length≤100)∧X.length≤100
def UQ:Ψ→Option Ψ:=ctr (fun X:List (List Rat)=>[qC X,Iy]) Z2 fun X=>[dj eVr X]
def LBP:Lst:=[(84,xy)]
theorem agR:dt base.P LBP:=⟨sV,trivial⟩
theorem Om:Ab.Spec base.P 137 UQ:=Ab.Spec.bN (C:=CC LBP) (cP agR) fun args rs h=>by
 obtain⟨X,⟨hX,h9⟩,rfl,rfl⟩:=cV h
 obtain⟨fr,fr1,fr2,a1,a2,a3,a4,a5,a6,a7,a8,a9⟩:=ahU LBP (runK (CC LBP) 200) 200 (qC X) Iy X.length (xE X)
 obtain⟨st,b1,b2,b3⟩:=xT (C:=CC LBP) (run:=runK (CC LBP) 200) (k:=200) (e:=0) (b:=rh) (n:=X.length) (st:=⟨fr2,[],[]⟩)
  (Inv:=fun i st=>dJ (ct rh) fr2 st.fr∧nth st.fr 10=iv i∧eP 1 eVr 0 st.hp (X.take i) (nth st.fr 5))
  (Q:=fun st=>eP 1 eVr 0 st.hp X (nth st.fr 5)∧st.fr.length=22) (by omega)
  (fun i st hi ⟨iK,i10,iO⟩=>by
   obtain⟨fr0,hp0,wr0⟩:=st
   dsimp only at iK i10 iO
   have l0:=iK.len a4
   obtain⟨fr3,c1,c2⟩:=acY LBP (runK (CC LBP) 200) 200 fr0 hp0 wr0 i X.length l0 (iK.at a8) i10
   rw[decide_eq_true hi] at c2
   have K1:=bG _ c1
   have e5:nth fr3 5=nth fr0 5:=K1.at rfl
   rw[← e5] at iO
   have hXi:=hX _ (getElem_mem hi)
   obtain⟨fr4,hp4,wr4,d1,d2⟩:=ahR LBP (runK (CC LBP) 200) 200 fr3 hp0 wr0 X i _ hi (by rw[length_take];omega) iO (Ty rfl 199 _ hXi.1 hXi.2) (K1.len l0) (K1.at (iK.at a5)) (K1.at (iK.at a7)) (K1.at i10)
   have K2:=bG _ d1
   have d1':af (CC LBP) (runK (CC LBP) 200) 200 (.block 1 aaN) ⟨fr3,hp0,wr0⟩=some (.normal,⟨fr4,hp4,wr4⟩):=by simp only[af,d1]
   obtain⟨fr5,g1,g2⟩:=ahT LBP (runK (CC LBP) 200) 200 fr4 hp4 wr4 i (by omega) (K2.len (K1.len l0)) (K2.at (K1.at i10))
   have K3:=bG _ g1
   have x3:af (CC LBP) (runK (CC LBP) 200) 200 (.cond (.tmp 11) .skip (.exit 0)) ⟨fr3,hp0,wr0⟩=some (.normal,⟨fr3,hp0,wr0⟩):=by simp[c2]
   have hr:af (CC LBP) (runK (CC LBP) 200) 200 rh ⟨fr0,hp0,wr0⟩=some (.normal,⟨fr5,hp4,wr4⟩):=by
    rw[KR,ar c1,ar x3,ar d1',g1]
   exact⟨_,hr,iK.trans (bG _ hr),g2,by
    show eP 1 eVr 0 hp4 _ (nth fr5 5)
    rw[take_succ_eq_append_getElem hi,K3.at rfl];exact d2⟩)
  (fun st ⟨iK,i10,iO⟩=>by
   obtain⟨fr0,hp0,wr0⟩:=st
   dsimp only at iK i10 iO
   obtain⟨fr3,c1,c2⟩:=acY LBP (runK (CC LBP) 200) 200 fr0 hp0 wr0 X.length X.length (iK.len a4) (iK.at a8) i10
   rw[decide_eq_false (by omega)] at c2
   have K1:=bG _ c1
   refine⟨⟨fr3,hp0,wr0⟩,?_,?_,K1.len (iK.len a4)⟩
   ·have x3:af (CC LBP) (runK (CC LBP) 200) 200 (.cond (.tmp 11) .skip (.exit 0)) ⟨fr3,hp0,wr0⟩=some (.exit 0,⟨fr3,hp0,wr0⟩):=by simp[c2]
    rw[KR,ar c1,af,x3]
   ·rw[take_length] at iO
    show eP 1 eVr 0 hp0 _ (nth fr3 5)
    rw[K1.at rfl]
    exact iO)
  ⟨dJ.refl _ _,a9,by
   show eP 1 eVr 0 [] [] (nth fr2 5)
   rw[a6];exact eP.nil (Nat.le_refl _)⟩
 obtain⟨fr3,hp3,wr3⟩:=st
 dsimp only at b2 b3
 obtain⟨st',c1,c2,c3⟩:=ahS LBP (runK (CC LBP) 200) 200 fr3 hp3 wr3 _ b3 rfl
 have hs:af (CC LBP) (runK (CC LBP) 200) 200 (.seq (seq1 (seq1 H7)) (.block 0 (.loop rh))) ⟨fr1,[],[]⟩=some (.normal,⟨fr3,hp3,wr3⟩):=by rw[ar a3];exact b1
 have hx:af (CC LBP) (runK (CC LBP) 200) 200 nO ⟨entry 22 [qC X,Iy],[],[]⟩=some (.ret,st'):=by
  rw[aaO,ar a1,ar a2,ar hs];exact c1
 obtain⟨rs,ids,d1,d2⟩:=qX Fv b2
 exact⟨_,_,_,_,rs,ids,aV Jy rfl hx c3,by rw[c2];exact d1,d2⟩
theorem ag9 {L:Lst}(hL:bt L 137=fun a=>UQ (aJ a))(run:aw)(X:List (List Rat))(h:Z2 X):az L run 137 [qC X,Iy] (dj eVr X) :=
 fT RB (e:=fun X:List (List Rat)=>[qC X,Iy]) (f:=fun X=>[dj eVr X]) hL (fun x y _ _ h=>by
  simp only[List.cons.injEq,and_true] at h
  rw[pJ h]) run X h (fun _=>rfl) (by simp only[aJ,qC,gj];rfl)
theorem Ur (L:Lst)(run:aw)(k:Nat)(V r:PV)(g:az L run 137 [V,Iy] r):∃ st,af (CC L) run k (f86.body.getD .skip) ⟨entry 5 [V],[],[]⟩=some (.ret,st)∧st.hp=[]∧bc TT st.fr st.hp f86.results.toList=some [r]:=by
 obtain⟨e1,e2⟩:=cL 4 V
 generalize entry 5 [V]=fr0 at *
 unfold az at g
 simp[f86,aM,e1,e2,g,bc]
def Up:Ψ→Option Ψ:=ctr (fun X:List (List Rat)=>[qC X]) Z2 fun X=>[dj eVr X]
def LCP:Lst:=[(137,UQ)]
theorem agL:dt base.P LCP:=⟨Om,trivial⟩
theorem Ob:Ab.Spec base.P 86 Up:=Ab.Spec.bN (C:=CC LCP) (cP agL) fun args rs h=>by
 obtain⟨X,hX,rfl,rfl⟩:=cV h
 obtain⟨st,c1,c2,c3⟩:=Ur LCP (runK (CC LCP) 10) 10 (qC X) _ (ag9 rfl _ X hX)
 exact⟨_,_,_,_,[dj eVr X],[]++[],aV Jw rfl c1 c3,by rw[c2];rfl,Wk.refl rfl,trivial⟩
theorem ag7 {L:Lst}(hL:bt L 86=fun a=>Up (aJ a))(run:aw)(X:List (List Rat))(h:Z2 X):az L run 86 [qC X] (dj eVr X) :=
 fT Rz (e:=fun X:List (List Rat)=>[qC X]) (f:=fun X=>[dj eVr X]) hL (fun x y _ _ h=>by
  simp only[List.cons.injEq,and_true] at h
  rw[pJ h]) run X h (fun _=>rfl) (by simp only[aJ,qC,gj])
theorem Jv:base.F.get 82=some f82:=by kernel_rfl
theorem Ry:base.shared 82=false:=by kernel_rfl
def raC:Code:=f82.body.getD .skip
def raB:Code:=(aA raC).getD .skip
def raT:Code:=.seq (seq1 raB) (seq1 (bn raB))
def raX:Code:=blk (seq1 (bn (bn raB)))
def raI:Code:=bn (bn (bn raB))
theorem ad7:raC = .seq (seq1 raC) (.seq (.seq (seq1 (seq1 (bn raC))) (.block 0 (.loop raB))) (bn (bn raC))):=rfl
theorem ad8:raB = .seq (seq1 raB) (.seq (seq1 (bn raB)) (.seq (.block 1 raX) raI)):=rfl
theorem QH:und TT 38=some (.slice 27):=by kernel_rfl
section
variable (L:Lst) (run:aw) (k:Nat) (fr:Ψ) (hp:Θ) (wr:Ω)
theorem aju (p:PV)(n:Nat)(hl:dy p=some n):∃ fr fr1,af (CC L) run k (seq1 raC) ⟨entry 15 [p],[],[]⟩=some (.normal,⟨fr,[],[]⟩)∧af (CC L) run k (seq1 (seq1 (bn raC))) ⟨fr,[],[]⟩=some (.normal,⟨fr1,[],[]⟩)∧fr1.length=15∧nth fr1 5=p∧nth fr1 6=iv n∧nth fr1 7=iv 0:=by
 obtain⟨e1,e2⟩:=cL 14 p
 generalize entry 15 [p]=fr0 at *
 obtain⟨fr,a1,a2,a3⟩:∃ fr,af (CC L) run k (seq1 raC) ⟨fr0,[],[]⟩=some (.normal,⟨fr,[],[]⟩)∧fr.length=15∧nth fr 0=p:=by
  simp[raC,f82,e1,e2]
 refine⟨fr,?_⟩
 simp only[a1,true_and]
 simp[iv,raC,f82,bL,bf,a2,a3,hl,QH]
theorem ajr (i n:Nat)(h0:fr.length=15)(h6:nth fr 6=iv n)(h7:nth fr 7=iv i):∃ fr',af (CC L) run k raT ⟨fr,hp,wr⟩=some (bif i.blt n then .normal else .exit 0,⟨fr',hp,wr⟩):=by
 simp only[iv] at h6 h7
 cases hu:i.blt n with
 | true =>
  have hlt:i<n:=by rwa [Nat.blt_eq] at hu
  simp[raT,raB,raC,f82,aZ,au,bg,h0,h6,h7,hlt]
 | false =>
  have hlt : ¬ i<n:=fun h=>by rw[← Nat.blt_eq,hu] at h;cases h
  simp[raT,raB,raC,f82,aZ,au,bg,h0,h6,h7,hlt]
theorem ajs (i:Nat)(h9:i<1000000)(h0:fr.length=15)(h7:nth fr 7=iv i):∃ fr',af (CC L) run k raI ⟨fr,hp,wr⟩=some (.normal,⟨fr',hp,wr⟩)∧nth fr' 7=iv (i+1):=by
 have hw:=bA i (by omega)
 simp only[iv] at h7
 simp[iv,raI,raB,raC,f82,aZ,au,bg,h0,h7,hw]
theorem ajq (X:List Rat)(i:Nat)(hi:i<X.length)(g:az L run 77 [qt X[i]] (.sc (.bool true)))(h0:fr.length=15)(h5:nth fr 5=qL X)(h7:nth fr 7=iv i):∃ fr',af (CC L) run k raX ⟨fr,hp,wr⟩=some (.normal,⟨fr',hp,wr⟩):=by
 have hi':i<(X.map qb).length:=by simpa using hi
 obtain⟨r,x1,x2⟩:=uv QH (X.map qb) i hi'
 rw[getElem_map] at x2
 replace x1:aU TT 38 (qL X) (.sc (.int .i64 (i:Int)))=some (.iptr r):=x1
 unfold az at g
 simp only[qt] at g
 generalize qL X=P at *
 generalize qb X[i]=s at *
 simp only[iv] at h7
 simp[raX,blk,raB,raC,f82,aM,partOf,unP,bf,h0,h5,h7,x1,x2,g,pz,fV,aX]
theorem ajt (h0:fr.length=15):∃ st,af (CC L) run k (bn (bn raC)) ⟨fr,hp,wr⟩=some (.ret,st)∧bc TT st.fr st.hp f82.results.toList=some [.sc (.bool true)]:=by
 simp[raC,f82,h0,bc]
end
def acS:Ψ→Option Ψ:=ctr (fun X:List Rat=>[qL X]) (fun X=>RbL 1000 X∧X.length≤1000) fun _=>[.sc (.bool true)]
def LBe:Lst:=[(77,vJ)]
theorem agO:dt base.P LBe:=⟨vI,trivial⟩
theorem ajZ {L:Lst}(hL:bt L 77=fun a=>vJ (aJ a))(run:aw)(x:Rat)(hx:Rb 1000 x):az L run 77 [qt x] (.sc (.bool true)):=by
 have:=LP hL run (qb x) (Nat.le_trans (sN hx) (by omega))
 rwa [jd ⟨x,rfl,hx⟩] at this
theorem Nf:Ab.Spec base.P 82 acS:=Ab.Spec.bN (C:=CC LBe) (cP agO) fun args rs h=>by
 obtain⟨X,⟨hX,h9⟩,rfl,rfl⟩:=cV h
 obtain⟨fr,fr1,a1,a2,a3,a4,a5,a6⟩:=aju LBe (runK (CC LBe) 2000) 2000 (qL X) X.length (Cd X)
 obtain⟨fr2,hp2,wr2,b1,b2,-⟩:=mI (C:=CC LBe) (run:=runK (CC LBe) 2000) (k:=2000) (e:=0) (e2:=1) (i:=7) (n:=X.length) (j0:=0) (B:=raB) (test:=raT) (body:=raX) (inc:=raI) (.inr ⟨_,_,rfl,ad8⟩) (by kernel_rfl) (by kernel_rfl) (by omega) (by omega)
  (J:=fun _ _ _=>True) (fr0:=fr1) (hp0:=[]) (wr0:=[])
  (fun fr hp wr j hK hj=>ajr _ _ _ fr hp wr j _ (hK.len a3) (hK.at a5) hj)
  (fun fr hp wr j hK hj hn=>ajs _ _ _ fr hp wr j (by omega) (hK.len a3) hj)
  (fun _ _ _ _ _ h=>h)
  (fun j fr hp wr _ hj hK hij _=>by
   obtain⟨fr',x⟩:=ajq LBe (runK (CC LBe) 2000) 2000 fr hp wr X j hj (ajZ rfl _ _ (hX _ (getElem_mem hj))) (hK.len a3) (hK.at a4) hij
   exact⟨fr',hp,wr,x,trivial⟩)
  a6 trivial
 obtain⟨st,c1,c2⟩:=ajt LBe (runK (CC LBe) 2000) 2000 fr2 hp2 wr2 (b2.len a3)
 have hs:af (CC LBe) (runK (CC LBe) 2000) 2000 (.seq (seq1 (seq1 (bn raC))) (.block 0 (.loop raB))) ⟨fr,[],[]⟩=some (.normal,⟨fr2,hp2,wr2⟩):=by rw[ar a2];exact b1
 have hx:af (CC LBe) (runK (CC LBe) 2000) 2000 raC ⟨entry 15 [qL X],[],[]⟩=some (.ret,st):=by
  rw[ad7,ar a1,ar hs];exact c1
 exact⟨_,_,_,_,_,_,aV Jv rfl hx c2,rfl,Wk.refl rfl,trivial⟩
theorem PO:base.F.get 33=some f33:=by kernel_rfl
theorem YR:base.shared 33=false:=by kernel_rfl
def afC:Code:=f33.body.getD .skip
def ot:Code:=(aA (seq1 (ag 4 afC))).getD .skip
def oq:Code:=(aA (seq1 (ag 5 afC))).getD .skip
def fN:Code:=(aA (seq1 (ag 9 afC))).getD .skip
def rT (B:Code):Code:=.seq (seq1 B) (seq1 (bn B))
def rX (B:Code):Code:=blk (seq1 (bn (bn B)))
def rI (B:Code):Code:=bn (bn (bn B))
def gR:Code:=(aA (rX fN)).getD .skip
def lv:Code:=(aA (rX gR)).getD .skip
theorem acD:ot = .seq (seq1 ot) (.seq (seq1 (bn ot)) (.seq (.block 1 (rX ot)) (rI ot))):=rfl
theorem acC:oq = .seq (seq1 oq) (.seq (seq1 (bn oq)) (.seq (.block 3 (rX oq)) (rI oq))):=rfl
theorem acB:fN = .seq (seq1 fN) (.seq (seq1 (bn fN)) (.seq (.block 5 (rX fN)) (rI fN))):=rfl
theorem acA:gR = .seq (seq1 gR) (.seq (seq1 (bn gR)) (.seq (.block 7 (rX gR)) (rI gR))):=rfl
theorem acz:lv = .seq (seq1 lv) (.seq (seq1 (bn lv)) (.seq (.block 9 (rX lv)) (rI lv))):=rfl
theorem adN:ag 4 afC = .seq (.seq (seq1 (seq1 (ag 4 afC))) (.block 0 (.loop ot))) (ag 5 afC):=rfl
theorem adM:ag 5 afC = .seq (.seq (seq1 (seq1 (ag 5 afC))) (.block 2 (.loop oq))) (ag 6 afC):=rfl
theorem adL:ag 9 afC = .seq (.seq (seq1 (seq1 (ag 9 afC))) (.block 4 (.loop fN))) (ag 10 afC):=rfl
theorem ado:eB TT 27=some [.sc (.string ⟨#[]⟩)]:=by kernel_rfl
theorem ajS:fQ TT 27=some 16:=by kernel_rfl
theorem X4:eB TT 39=some [.sc (.slice none 0 0)]:=by kernel_rfl
theorem aiO:fQ TT 39=some 24:=by kernel_rfl
theorem ac3 (X:List (List Rat))(i:Nat)(hi:i<X.length):∃ r,aU TT 109 (dj eVr X) (.sc (.int .i64 (i:Int)))=some (.iptr r)∧r.head?=some (vR X[i]):=by
 have h:=jT Fv X i hi
 refine⟨bq (X.flatMap eVr) (i*1),?_,by rw[h];rfl⟩
 unfold dj
 simp only[aU,sf,bh,zw,hi,if_true]
theorem Ce (X:List Rat)(i:Nat)(hi:i<X.length):∃ r,aU TT 83 (vR X) (.sc (.int .i64 (i:Int)))=some (.iptr r)∧bD r 4=some (rcs X[i]):=by
 obtain⟨r,h1,h2⟩:=pO false X i hi
 refine⟨r,?_,h2⟩
 rw[← h1]
 show aU TT 83 (dm false X) _=_
 simp only[aU,JP,vO]
def mZ (b:Rat)(R P:List Rat):Nat→Rat
 | 0=>b
 | j+1=>mZ b R P j+R.getD j 0*P.getD j 0
section
variable (L:Lst) (run:aw) (k:Nat) (fr:Ψ) (hp:Θ) (wr:Ω)
theorem aiU (i n:Nat)(h0:fr.length=123)(hn:nth fr 94=iv n)(hi:nth fr 95=iv i):∃ fr',af (CC L) run k (rT lv) ⟨fr,hp,wr⟩=some (bif i.blt n then .normal else .exit 8,⟨fr',hp,wr⟩):=by
 simp only[iv] at hn hi
 cases hu:i.blt n with
 | true =>
  have hlt:i<n:=by rwa [Nat.blt_eq] at hu
  simp[rT,rX,blk,ag,lv,gR,fN,afC,f33,aZ,au,bg,h0,hn,hi,hlt]
 | false =>
  have hlt : ¬ i<n:=fun h=>by rw[← Nat.blt_eq,hu] at h;cases h
  simp[rT,rX,blk,ag,lv,gR,fN,afC,f33,aZ,au,bg,h0,hn,hi,hlt]
theorem ai3 (i:Nat)(h9:i<1000000)(h0:fr.length=123)(hi:nth fr 95=iv i):∃ fr',af (CC L) run k (rI lv) ⟨fr,hp,wr⟩=some (.normal,⟨fr',hp,wr⟩)∧nth fr' 95=iv (i+1):=by
 have hw:=bA i (by omega)
 simp only[iv] at hi
 simp[iv,rI,rX,blk,ag,lv,gR,fN,afC,f33,aZ,au,bg,h0,hi,hw]
def adb:Code:=bn (rX lv)
theorem ajV:((Region.before (iP adb))[8]?.getD 0).testBit 0=true:=by kernel_rfl
theorem aiR (Rw P:List Rat)(i id:Nat)(sc p1 p2:Ψ)(hi:i<Rw.length)(hy:i<P.length)(hsl:sc.length=4)(hpl:p2.length=4)(hpo:bd p2=true)(g1:az L run 56 [.agg (rcs Rw[i]),.agg (rcs P[i])] (.agg p1))(g2:az L run 87 [.agg sc,.agg p1] (.agg p2))(h0:fr.length=123)(h18:nth fr 18=vR P)(h22:nth fr 22 = .ptr id 0)(h93:nth fr 93=vR Rw)(h95:nth fr 95=iv i)(hb:aP hp id=some ⟨.live,sc⟩)(hn:id<hp.length) :
  ∃ fr' wr',af (CC L) run k (rX lv) ⟨fr,hp,wr⟩=some (.normal,⟨fr',bZ (bZ (aL hp rz) hp.length ⟨.live,rcs Rw[i]⟩) id ⟨.live,p2⟩,wr'⟩):=by
 obtain⟨r,x1,x2⟩:=Ce Rw i hi
 obtain⟨r',y1,y2⟩:=Ce P i hy
 have hx:=al1 hp rz
 have hx1:=dH rz (rcs Rw[i]) (by rw[cl.len];rfl)
 have hx2:=al2 hp rz ⟨.live,rcs Rw[i]⟩
 have hx3:=(al3 hp rz ⟨.live,rcs Rw[i]⟩ id hn).trans hb
 have hx4:=dM (rcs Rw[i]) (cl.len _)
 have hx4':=dM sc hsl
 have ho:=dH sc p2 (by rw[hsl,hpl])
 have hokx:=cl.okc Rw[i]
 have hlx:=cl.len Rw[i]
 have hn0:hp.length≠id:=by omega
 have hn1:(id=hp.length)=False:=by simp;omega
 unfold az at g1 g2
 generalize rcs Rw[i]=cx at *
 generalize rcs P[i]=cy at *
 simp only[iv] at h95
 have zR':=zRz
 have hbit:=ajV
 simp[-Nat.testBit_zero,adb,rX,blk,ag,lv,gR,fN,afC,f33,iP] at hbit
 simp[-Nat.testBit_zero,hbit,rX,blk,ag,lv,gR,fN,afC,f33,aM,partOf,bf,bm,h0,h18,h22,h93,h95,x1,x2,y1,y2,g1,g2,ho,hx,hx1,hx2,hx3,hx4,hx4',hokx,hlx,hpo,hpl,hn1,aX,aR,sR,zR',bq,number,FP.free,cD,FP.apart]
end
theorem xL {X:List Rat}{i:Nat}(h:i<X.length):X.getD i 0=X[i]:=by rw[getD_eq_getElem?_getD,List.getElem?_eq_getElem h];rfl
theorem B5 {b:Rat}{R P:List Rat}{j k m:Nat}(hb:Rb m b)(hR:RbL j R)(hP:RbL k P):∀ i,i≤R.length→i≤P.length→Rb (m+i*(j+k+1)) (mZ b R P i)
 | 0,_,_=>by rw[Nat.zero_mul];exact hb
 | i+1,h1,h2=>by
  have h:=B5 hb hR hP i (by omega) (by omega)
  have hx:Rb j (R.getD i 0):=by rw[xL (by omega)];exact hR _ (getElem_mem _)
  have hy:Rb k (P.getD i 0):=by rw[xL (by omega)];exact hP _ (getElem_mem _)
  have e:(i+1)*(j+k+1)=i*(j+k+1)+(j+k+1):=Nat.succ_mul i _
  exact (h.add (hx.mul hy)).mono (by rw[e];omega)
def LBf:Lst:=[(80,rP),(81,LB),(82,acS),(83,Uq),(86,Up),(84,xy),(56,jy),(87,fW),(43,jM),(44,rtF)]
theorem agt (L:Lst)(hL1:bt L 56=fun a=>jy (aJ a))(hL2:bt L 87=fun a=>fW (aJ a))(run:aw)(k:Nat)(hk:100<k)(fr:Ψ)(hp:Θ)(wr:Ω)(b:Rat)(Rw P:List Rat)(id:Nat)(hl:Rw.length≤P.length)(h3:Rw.length≤3)(hb9:Rb 100 b)(hR:RbL 100 Rw)(hP:RbL 100 P)(h0:fr.length=123)(h18:nth fr 18=vR P)(h22:nth fr 22 = .ptr id 0)(h93:nth fr 93=vR Rw)(h94:nth fr 94=iv Rw.length)(h95:nth fr 95=iv 0)(hb:aP hp id=some ⟨.live,rcs b⟩)(hn:id<hp.length) :
  ∃ fr' hp' wr',af (CC L) run k (.block 8 (.loop lv)) ⟨fr,hp,wr⟩=some (.normal,⟨fr',hp',wr'⟩)∧dJ (ct lv) fr fr'∧aP hp' id=some ⟨.live,rcs (mZ b Rw P Rw.length)⟩∧hp.length≤hp'.length∧∀ t,t<hp.length→t≠id→aP hp' t=aP hp t:=by
 obtain⟨fr',hp',wr',a1,a2,a3,a4,a5⟩:=mI (C:=CC L) (run:=run) (k:=k) (e:=8) (e2:=9) (i:=95) (n:=Rw.length) (j0:=0) (B:=lv) (test:=rT lv) (body:=rX lv) (inc:=rI lv) (.inr ⟨_,_,rfl,acz⟩) (by kernel_rfl) (by kernel_rfl) (by omega) (by omega)
  (J:=fun j _ hp'=>aP hp' id=some ⟨.live,rcs (mZ b Rw P j)⟩∧hp.length≤hp'.length∧∀ t,t<hp.length→t≠id→aP hp' t=aP hp t) (fr0:=fr) (hp0:=hp) (wr0:=wr)
  (fun fr' hp' wr' j hK hj=>aiU _ _ _ fr' hp' wr' j _ (hK.len h0) (hK.at h94) hj)
  (fun fr' hp' wr' j hK hj hn=>ai3 _ _ _ fr' hp' wr' j (by omega) (hK.len h0) hj)
  (fun _ _ _ _ _ h=>h)
  (fun j fr' hp' wr' _ hj hK hij ⟨j1,j2,j3⟩=>by
   have hx:=hR _ (getElem_mem hj)
   have hjP:j<P.length:=by omega
   have hy:=hP _ (getElem_mem hjP)
   have hs:=B5 hb9 hR hP j (by omega) (by omega)
   have hj9:j*(100+100+1)≤3*201:=Nat.mul_le_mul (by omega) (by omega)
   have g1:=ag0 hL1 run (u:=some Rw[j]) (v:=some P[j]) hx hy (by omega)
   have g2:=ag2 hL2 run (u:=some (mZ b Rw P j)) (v:=some (Rw[j]*P[j])) hs (hx.mul hy) (by omega)
   have e:mZ b Rw P j+Rw[j]*P[j]=mZ b Rw P (j+1):=by
    show _=mZ b Rw P j+Rw.getD j 0*P.getD j 0
    rw[xL hj,xL hjP]
   have g2':az L run 87 [rv (some (mZ b Rw P j)),rv (some (Rw[j]*P[j]))] (rv (some (mZ b Rw P (j+1)))):=by rw[← e];exact g2
   obtain⟨fr2,wr2,x1⟩:=aiR L run k fr' hp' wr' Rw P j id _ _ _ hj hjP (cl.len _) (cl.len _) (cl.okc _) g1 g2' (hK.len h0) (hK.at h18) (hK.at h22) (hK.at h93) hij j1 (by omega)
   have hx3:=(al3 hp' rz ⟨.live,rcs Rw[j]⟩ id (by omega)).trans j1
   refine⟨fr2,_,wr2,x1,?_,?_,fun t ht hti => ?_⟩
   ·rw[cI hx3,if_pos rfl]
   ·rw[bC,al4];omega
   ·rw[cI hx3,if_neg hti,al3 _ _ _ _ (by omega),j3 t ht hti])
  h95 ⟨hb,Nat.le_refl _,fun _ _ _=>rfl⟩
 exact⟨fr',hp',wr',a1,a2,a3,a4,a5⟩
end Go.Proofs.YtjdmodeenbdfpaaGreat
end
