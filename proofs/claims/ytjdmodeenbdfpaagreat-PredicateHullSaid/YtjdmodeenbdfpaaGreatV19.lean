/- Contracts of numbers kept as digits in text, part 19; each lemma states its conditions. -/
import Derived.Test.YtjdmodeenbdfpaaGreatV18
set_option linter.unusedSimpArgs false
set_option linter.unusedVariables false
noncomputable section
namespace Go.Proofs.YtjdmodeenbdfpaaGreat
open Go Go.Ab List Tryz
attribute [local simp] FzZ aC aF aG aH aM aZ aa ab ae af ag ah ai aj an ao aq au av bf
variable(L:Lst)(run:aw)(k:Nat)(fr:Ψ)(hp:Θ)(wr:Ω)
theorem sw:base.F.get 65=some f65:=by kernel_rfl
theorem Gv:base.F.get 48=some f48:=by kernel_rfl
theorem J4:base.F.get 122=some f122:=by kernel_rfl
theorem uV:base.F.get 24=some f24:=by kernel_rfl
theorem pF:base.F.get 64=some f64:=by kernel_rfl
theorem CO:base.F.get 23=some f23:=by kernel_rfl
theorem yN:base.F.get 67=some f67:=by kernel_rfl
theorem kn:base.shared 65=false:=by kernel_rfl
theorem Nu:base.shared 48=false:=by kernel_rfl
theorem Ns:base.shared 24=false:=by kernel_rfl
theorem aaf:base.shared 64=false:=by kernel_rfl
theorem Hg:base.shared 23=false:=by kernel_rfl
theorem Ds:base.shared 67=false:=by kernel_rfl
def LT5:Lst:=[(120,nW),(66,iR),(100,pc)]
theorem aid:dE base.P LT5:=⟨xl,nV,uE,trivial⟩
theorem abS:bx LT5 120=fun a=>nW (aK a):=rfl
theorem U7:bx LT5 66=fun a=>iR (aK a):=rfl
theorem Zm.neg {z:Int}(h:Zm z)(h2:Ab.dT z<eQ):Zm (-z):=by
 unfold Zm
 rw[gr,CU]
 cases bz (-z) <;> simp <;> omega
theorem Ii(s t u r:ByteArray)(g1:az L run 120 [.sc (.string t)] (.sc (.string u)))(g2:az L run 66 [.sc (.string s),.sc (.string u)] (.sc (.string r))) :
  ∃ st,ae (CC L) run k (f157.body.getD .skip) ⟨entry 9 [.sc (.string s),.sc (.string t)],[],[]⟩=some (.ret,st)∧aX TT st.fr st.hp f157.results.toList=some [.sc (.string r)]:=by
 obtain⟨e1,e2,e3⟩:=cl 7 (.sc (.string s)) (.sc (.string t))
 generalize entry 9 [.sc (.string s),.sc (.string t)]=fr0 at *
 unfold az at *
 simp[f157,e1,e2,e3,g1,g2,aX]
def xn:Ψ→Option Ψ
 | [p,q]=>match fP p,fP q with
  | some x,some y=>bif (dT y).blt eQ then some [zs (x - y)] else none
  | _,_=>none
 | _=>none
theorem Ih:Ab.Spec base.P 157 xn:=Ab.Spec.bS (C:=CC LT5) (cR aid) fun args rs h=>by
 unfold xn at h
 split at h
 ·split at h
  ·rename_i x y ex ey
   obtain⟨rfl,hx⟩:=di ex
   obtain⟨rfl,hy⟩:=di ey
   cases hb:(dT y).blt eQ with
   | false=>rw[hb] at h;cases h
   | true =>
    rw[hb] at h
    simp only[cond_true,OiE] at h
    subst h
    rw[Nat.blt_eq] at hb
    have hn:=Zm.neg hy hb
    have g1:az LT5 (runK (CC LT5) 1) 120 [zs y] (zs (-y)):=fun dr hp=>bt Dv abS _ dr hp _ [zs (-y)] rfl rfl (by simp only[nW,cG y hy])
    have g2:az LT5 (runK (CC LT5) 1) 66 [zs x,zs (-y)] (zs (x + -y)):=fun dr hp=>bt sK U7 _ dr hp _ [zs (x + -y)] rfl rfl (by simp only[iR,cG x hx,cG (-y) hn])
    obtain⟨st,x1,x2⟩:=Ii LT5 (runK (CC LT5) 1) 1 _ _ _ _ g1 g2
    exact⟨2,_,_,_,_,_,ba CQ rfl x1 x2,rfl,Wk.refl rfl,trivial⟩
  ·cases h
 ·cases h
theorem akh (a:Nat):((a:Int) == 47)=a.beq 47:=by
 cases h:a.beq 47 with
 | true=>rw[Nat.eq_of_beq_eq_true h];rfl
 | false =>
  rw[beq_eq_false_iff_ne]
  intro e
  have:a=47:=by omega
  subst this;cases h
theorem Nd (l:Ω)(k:Nat)(hp:Θ)(h:k≤l.length):dw TT hp 27 (.sc (.string (tx l))) (some (.sc (.int .i64 (k:Int)))) none none=some (.sc (.string (tx (l.drop k)))):=by
 simp only[dw,uAR,dW,dN,bnd,fv,bn]
 simp[tx,fk,h]
 rw[take_of_length_le (by simp)]
theorem Nf (l:Ω)(k:Nat)(hp:Θ)(h:k≤l.length):dw TT hp 27 (.sc (.string (tx l))) none (some (.sc (.int .i64 (k:Int)))) none=some (.sc (.string (tx (l.take k)))):=by
 simp only[dw,uAR,dW,dN,bnd,fv,bn]
 simp[tx,fk,h]
def ra:Code:=f65.body.getD .skip
def rb:Code:=((f65.body).bind aA).getD .skip
theorem TC(l:Ω)(h24:fr.length=24)(h0:nth fr 0 = .sc (.string (tx l)))(h5:nth fr 5=iv l.length) :
  ∃ fr',ae (CC L) run k rb ⟨fr,[],[]⟩=some (.exit 0,⟨fr',[],[]⟩)∧fr'.length=24∧nth fr' 0 = .sc (.string (tx l)):=by
 simp only[iv] at h5
 simp[rb,f65,aA,bL,bc,dN,h24,h0,h5,uAR]
set_option maxHeartbeats 1000000 in
theorem aaX(l:Ω)(i:Nat)(hl:Bok l)(hi:i<l.length)(hi9:i<20000000)(hd:(at0 l i).beq 47=false)(h24:fr.length=24)(h0:nth fr 0 = .sc (.string (tx l)))(h5:nth fr 5=iv i) :
  ∃ fr',ae (CC L) run k rb ⟨fr,[],[]⟩=some (.normal,⟨fr',[],[]⟩)∧fr'.length=24∧nth fr' 0 = .sc (.string (tx l))∧nth fr' 5=iv (i+1):=by
 have hx:=fe uAR hl .i64 i hi
 have hb:=akh (at0 l i)
 rw[hd] at hb
 have hw:=bD i (by omega)
 generalize at0 l i=b at *
 simp only[iv] at h5 ⊢
 simp[rb,f65,aA,bL,bc,dN,h24,h0,h5,uAR,hi,hx,hb,hw]
set_option maxHeartbeats 1000000 in
theorem TA(l:Ω)(i:Nat)(hl:Bok l)(hi:i<l.length)(hi9:i<20000000)(hd:(at0 l i).beq 47=true)(h24:fr.length=24)(h0:nth fr 0 = .sc (.string (tx l)))(h5:nth fr 5=iv i) :
  ∃ fr',ae (CC L) run k rb ⟨fr,[],[]⟩=some (.ret,⟨fr',[],[]⟩)∧nth fr' 2 = .sc (.string (tx (l.take i)))∧nth fr' 3 = .sc (.string (tx (l.drop (i+1))))∧nth fr' 4 = .sc (.bool true):=by
 have hx:=fe uAR hl .i64 i hi
 have hb:=akh (at0 l i)
 rw[hd] at hb
 have hw:=bD i (by omega)
 have h1:=Nf l i [] (by omega)
 have h2:dw TT [] 27 (.sc (.string (tx l))) (some (.sc (.int .i64 ((i:Int)+1)))) none none=some (.sc (.string (tx (l.drop (i+1))))):=Nd l (i+1) [] (by omega)
 generalize at0 l i=b at *
 simp only[iv] at h5
 simp[rb,f65,aA,bL,bc,dN,h24,h0,h5,uAR,hi,hx,hb,hw,h1,h2,number,FP.free]
theorem Aa (L:Lst)(run:aw)(k:Nat)(l:Ω)(hl:Bok l)(h9:l.length<20000000):∀ (n i:Nat) (fr:Ψ),i+n=l.length→fr.length=24→nth fr 0 = .sc (.string (tx l))→nth fr 5=iv i →
  (fN (l.drop i)=none∧∃ fr',cb (ae (CC L) run k rb) (n+1) ⟨fr,[],[]⟩=some (.exit 0,⟨fr',[],[]⟩)∧fr'.length=24∧nth fr' 0 = .sc (.string (tx l))) ∨
  (∃ j fr',fN (l.drop i)=some j∧cb (ae (CC L) run k rb) (n+1) ⟨fr,[],[]⟩=some (.ret,⟨fr',[],[]⟩)∧nth fr' 2 = .sc (.string (tx (l.take (i+j))))∧nth fr' 3 = .sc (.string (tx (l.drop (i+j+1))))∧nth fr' 4 = .sc (.bool true))
 | 0,i,fr,hi,h24,h0,h5=>by
  have:i=l.length:=by omega
  subst this
  obtain⟨fr',g1,g2,g3⟩:=TC L run k fr l h24 h0 h5
  exact .inl ⟨by rw[drop_length];rfl,fr',bu g1,g2,g3⟩
 | n+1,i,fr,hi,h24,h0,h5=>by
  have hil:i<l.length:=by omega
  have hdr:fN (l.drop i)=bif (at0 l i).beq 47 then some 0 else (fN (l.drop (i+1))).map (· + 1):=by rw[drop_eq_getElem_cons hil,dc hil];rfl
  cases hd:(at0 l i).beq 47 with
  | true =>
   obtain⟨fr1,g1,g2,g3,g4⟩:=TA L run k fr l i hl hil (by omega) hd h24 h0 h5
   exact .inr ⟨0,fr1,by rw[hdr,hd];rfl,du g1,g2,g3,g4⟩
  | false =>
   obtain⟨fr1,g1,g2,g3,g4⟩:=aaX L run k fr l i hl hil (by omega) hd h24 h0 h5
   rw[hdr,hd,cond_false,bT g1]
   rcases Aa L run k l hl h9 n (i+1) fr1 (by omega) g2 g3 g4 with ⟨q1,q2⟩| ⟨j,fr',q1,q2,q3,q4,q5⟩
   ·exact .inl ⟨by rw[q1];rfl,q2⟩
   ·refine .inr ⟨j+1,fr',by rw[q1];rfl,q2,?_,?_,q5⟩
    ·rw[q3,show i+1+j=i+(j+1) by omega]
    ·rw[q4,show i+1+j+1=i+(j+1)+1 by omega]
def TD:Code:=seq1 (seq1 (ai 1 ra))
theorem wS:ai 1 ra = .seq (.seq TD (.block 0 (.loop rb))) (ai 2 ra):=rfl
theorem TB (L:Lst)(run:aw)(k:Nat)(s:ByteArray) :
  ∃ fr fr',bh (CC L) run k 1 ra ⟨entry 24 [.sc (.string s)],[],[]⟩=some ⟨fr,[],[]⟩∧ae (CC L) run k TD ⟨fr,[],[]⟩=some (.normal,⟨fr',[],[]⟩)∧fr'.length=24∧nth fr' 0 = .sc (.string s)∧nth fr' 5=iv 0:=by
 obtain⟨e1,e2⟩:=cO 23 (.sc (.string s))
 generalize entry 24 [.sc (.string s)]=fr0 at *
 simp[TD,ra,f65,seq1,bh,e1,e2,iv]
theorem N4(s:ByteArray)(h24:fr.length=24)(h0:nth fr 0 = .sc (.string s)) :
  ∃ st,ae (CC L) run k (ai 2 ra) ⟨fr,[],[]⟩=some (.ret,st)∧aX TT st.fr st.hp f65.results.toList=some [.sc (.string s),.sc (.string (tx [49])),.sc (.bool false)]:=by
 have:(tx [49])={ data:=#[49] } := rfl
 rw[this]
 simp[ra,f65,h24,h0,aX]
def kS:Ψ→Option Ψ
 | [.sc (.string s)]=>bif (bys s).length.blt 20000000 then (match fN (bys s) with
  | some j=>some [.sc (.string (tx ((bys s).take j))),.sc (.string (tx ((bys s).drop (j+1)))),.sc (.bool true)]
  | none=>some [.sc (.string s),.sc (.string (tx [49])),.sc (.bool false)]) else none
 | _=>none
theorem o0:Ab.Spec base.P 65 kS:=Ab.Spec.bS (C:=CC []) (cR trivial) fun args rs h=>by
 unfold kS at h
 split at h
 ·rename_i s
  cases hb:(bys s).length.blt 20000000 with
  | false=>rw[hb] at h;cases h
  | true =>
   rw[hb] at h
   simp only[cond_true] at h
   rw[Nat.blt_eq] at hb
   have hok:=nf s
   obtain⟨f1,f2,a1,a2,a3,a4,a5⟩:=TB [] (runK (CC []) 20000000) 20000000 s
   have a4':nth f2 0 = .sc (.string (tx (bys s))):=by rw[a4,iC]
   rcases Aa [] (runK (CC []) 20000000) 20000000 (bys s) hok hb (bys s).length 0 f2 (by omega) a3 a4' a5 with ⟨q1,f3,q2,q3,q4⟩| ⟨j,f3,q1,q2,q3,q4,q5⟩
   ·rw[drop_zero] at q1
    rw[q1] at h
    simp only[OiE] at h
    subst h
    rw[iC] at q4
    obtain⟨st,x1,x2⟩:=N4 [] (runK (CC []) 20000000) 20000000 f3 s q3 q4
    have hx:ae (CC []) (runK (CC []) 20000000) 20000000 ra ⟨entry 24 [.sc (.string s)],[],[]⟩=some (.ret,st):=by
     rw[aY 1 a1,wS,ar ((ar a2).trans (bE (bK q2 (by omega))))]
     exact x1
    exact⟨20000001,_,_,_,_,_,ba sw rfl hx x2,rfl,Wk.refl rfl,Wk.refl rfl,Wk.refl rfl,trivial⟩
   ·rw[drop_zero] at q1
    rw[Nat.zero_add] at q3 q4
    rw[q1] at h
    simp only[OiE] at h
    subst h
    have hx:ae (CC []) (runK (CC []) 20000000) 20000000 ra ⟨entry 24 [.sc (.string s)],[],[]⟩=some (.ret,⟨f3,[],[]⟩):=by
     rw[aY 1 a1,wS]
     exact bO ((ar a2).trans (cJ (bK q2 (by omega))))
    have x2:aX TT f3 [] f65.results.toList=some [.sc (.string (tx ((bys s).take j))),.sc (.string (tx ((bys s).drop (j+1)))),.sc (.bool true)]:=by
     simp[f65,aX,q3,q4,q5]
    exact⟨20000001,_,_,_,_,_,ba sw rfl hx x2,rfl,Wk.refl rfl,Wk.refl rfl,Wk.refl rfl,trivial⟩
 ·cases h
def LT6:Lst:=[(156,iQ),(118,kW),(119,nX),(115,uA),(116,nB),(113,uo),(114,uw),(66,iR),(157,xn)]
theorem aic:dE base.P LT6:=⟨ud,uk,xp,Aw,sY,Al,Aq,nV,Ih,trivial⟩
theorem EO:bx LT6 156=fun a=>iQ (aK a):=rfl
theorem U5:bx LT6 118=fun a=>kW (aK a):=rfl
theorem abR:bx LT6 119=fun a=>nX (aK a):=rfl
theorem abQ:bx LT6 115=fun a=>uA (aK a):=rfl
theorem EP:bx LT6 116=fun a=>nB (aK a):=rfl
theorem OW:bx LT6 113=fun a=>uo (aK a):=rfl
theorem abO:bx LT6 114=fun a=>uw (aK a):=rfl
theorem U6:bx LT6 66=fun a=>iR (aK a):=rfl
theorem abP:bx LT6 157=fun a=>xn (aK a):=rfl
theorem yb(x y:Nat)(hx:(T.aJ x).length<10000000)(hy:(T.aJ y).length<10000000):az LT6 run 118 [bC (T.aJ x),bC (T.aJ y)] (Ab.bN (dS x y)):=fun dr hp =>
 bt zS U5 run dr hp _ [Ab.bN (dS x y)] rfl (oD _ _) (by simp only[kW,dR (T.bU x) hx,dR (T.bU y) hy,rf])
theorem adn (run:aw)(x y:Nat)(hx:(T.aJ x).length<10000000)(hy:(T.aJ y).length<10000000)(h:y≤x):az LT6 run 119 [bC (T.aJ x),bC (T.aJ y)] (bC (T.aJ (x - y))):=fun dr hp =>
 bt zT abR run dr hp _ [bC (T.aJ (x - y))] rfl (oD _ _) (by
  have h1:(T.aJ y).length.ble (T.aJ x).length=true:=by rw[Nat.ble_eq];exact T.cC h
  have h2:y.ble x=true:=by rw[Nat.ble_eq];exact h
  simp only[nX,dR (T.bU x) hx,dR (T.bU y) hy,T.bX,h1,h2,Bool.and_self,cond_true])
def su (hp hp':Θ):Prop:=hp.length≤hp'.length∧∀ i,i<hp.length→aL hp' i=aL hp i
theorem su.refl:su hp hp:=⟨Nat.le_refl _,fun _ _=>rfl⟩
theorem su.trans {a b c:Θ}(h:su a b)(h':su b c):su a c:=⟨Nat.le_trans h.1 h'.1,fun i hi=>by rw[h'.2 i (by have:=h.1;omega),h.2 i hi]⟩
theorem dt.grow {α:Type}{e:α→PV}{b:Nat}{hp hp':Θ}{l:List α}{p:PV}(h:dt e b hp l p)(g:su hp hp'):dt e b hp' l p:=by
 obtain⟨hb,h⟩:=h
 refine⟨Nat.le_trans hb g.1,?_⟩
 rcases h with ⟨rfl,rfl⟩| ⟨id,m,h1,h2,rfl,h⟩
 ·exact .inl ⟨rfl,rfl⟩
 ·exact .inr ⟨id,m,h1,Nat.lt_of_lt_of_le h2 g.1,rfl,by rw[g.2 id h2];exact h⟩
theorem Gm (run:aw)(dr:Bool)(hp:Θ)(c:Ω)(r:Ω)(hc:T.Dok c)(hr:T.Dok r)(hl:c.length+r.length<9000000) :
  ∃ p' hp' fp hp'' fp',cU hp 1 (.imm c.length true (c.map iv)) r.length (r.map iv)=some (p',hp',fp)∧bP (CC LT6) run dr hp' 156 [p']=some (bC (T.aJ (T.val (c++r))),hp'',fp')∧su hp hp'':=by
 have htr:iQ [mX iv (c++r)]=some [bC (T.aJ (T.val (c++r)))]:=by
  have h1:=hc.append hr
  have h2:=dR h1 (show (c++r).length<10000000 by simp;omega)
  simp only[bC] at h2
  simp only[iQ,h2,T.eB h1]
 by_cases h0:r.length=0
 ·have hr0:r=[]:=length_eq_zero_iff.1 h0
  subst hr0
  rw[append_nil] at htr ⊢
  refine⟨.imm c.length true (c.map iv),hp,FzZ,?_⟩
  have h4:bw (snap hp bq) [.imm c.length true (c.map iv)]=some ([.imm c.length true (c.map iv)],[]):=rfl
  have h3:(CC LT6).orc 156 [.imm c.length true (c.map iv)]=some [bC (T.aJ (T.val c))]:=by
   show bx LT6 156 [.imm c.length true (c.map iv)]=_
   rw[EO]
   simp only[aK,jl.aeb _ true c rfl]
   exact htr
  exact⟨_,_,by simp[cU],eJ lS h4 h3 rfl,su.refl hp⟩
 ·have hO:kd iv hp.length (aO hp (c.map iv++r.map iv)) (c++r) (.own hp.length 1 0 (c.length+r.length) false):=by
   refine⟨by simp[aO],.inr ⟨hp.length,[],false,Nat.le_refl _,by simp[aO],by simp,nofun,?_⟩⟩
   rw[bH,if_pos rfl,append_nil,map_append]
  obtain⟨hp'',fp',h1,h2,h3⟩:=tB lS EO run dr jl hO _ htr
  have hlen:(aO hp (c.map iv++r.map iv)).length≤hp''.length:=Nat.le_of_eq h3.symm
  refine⟨.own hp.length 1 0 (c.length+r.length) false,aO hp (c.map iv++r.map iv),⟨[],[hp.length],true,false⟩,hp'',fp',?_,h1,?_,?_⟩
  ·simp only[cU,if_neg h0]
   rw[if_pos ⟨Nat.le_trans (Nat.le_of_lt hl) (by decide),by simp⟩]
  ·exact Nat.le_trans (by simp[aO]) hlen
  ·intro i hi
   rw[h2 i hi,bH,if_neg (by omega)]
def dC:Code:=f121.body.getD .skip
def jf:Code:=((f121.body).bind aA).getD .skip
def Ap:Code:=(aA jf).getD .skip
def uu:Code:=match aQ jf with | .seq (.block _ c) _=>c | c=>c
def QF (fr:Ψ)(b:PV)(p s:Bool)(x y:Ω)(q i:PV):Prop :=
 fr.length=164∧nth fr 1=b∧nth fr 12 = .sc (.bool p)∧nth fr 13=bC x∧nth fr 14 = .sc (.bool s)∧nth fr 15=bC y∧nth fr 17=q∧nth fr 19=i
theorem Ao(b:PV)(p s:Bool)(x y r:Ω)(q i n:PV)(z:Int)(hz:z<0)(hc:az LT6 run 118 [bC r,bC y] (Ab.bN z))(h:QF fr b p s x y q i)(h18:nth fr 18=bC r)(h20:nth fr 20=n) :
  ∃ fr',ae (CC LT6) run k Ap ⟨fr,hp,wr⟩=some (.exit 2,⟨fr',hp,wr⟩)∧QF fr' b p s x y q i∧nth fr' 18=bC r∧nth fr' 20=n:=by
 obtain⟨h0,h1,h12,h13,h14,h15,h17,h19⟩:=h
 unfold az at hc
 simp only[Ab.bN] at hc
 have hz2 : ¬ (0≤z):=by omega
 simp[QF,Ap,jf,f121,aA,and_assoc,h0,h1,h12,h13,h14,h15,h17,h18,h19,h20,hc,hz2]
theorem Um(b:PV)(p s:Bool)(x y r r':Ω)(q i:PV)(n:Nat)(z:Int)(hz:0≤z)(hn:n<1000000)(hc:az LT6 run 118 [bC r,bC y] (Ab.bN z))(hc2:az LT6 run 119 [bC r,bC y] (bC r'))(h:QF fr b p s x y q i)(h18:nth fr 18=bC r)(h20:nth fr 20=iv n) :
  ∃ fr',ae (CC LT6) run k Ap ⟨fr,hp,wr⟩=some (.normal,⟨fr',hp,wr⟩)∧QF fr' b p s x y q i∧nth fr' 18=bC r'∧nth fr' 20=iv (n+1):=by
 obtain⟨h0,h1,h12,h13,h14,h15,h17,h19⟩:=h
 unfold az at hc hc2
 simp only[Ab.bN] at hc
 have hw:=bD n (by omega)
 simp only[iv] at h20 ⊢
 simp[QF,Ap,jf,f121,aA,and_assoc,h0,h1,h12,h13,h14,h15,h17,h18,h19,h20,hc,hc2,hz,hw]
theorem xk (run:aw)(k:Nat)(hp:Θ)(wr:Ω)(b:PV)(p s:Bool)(x:Ω)(q i:PV)(Y:Nat)(hY:0<Y)(hY9:(T.aJ Y).length<9000000):∀ (d n R:Nat) (fr:Ψ),R<(d+1)*Y→n+d<1000000→(T.aJ R).length<9000000→QF fr b p s x (T.aJ Y) q i→nth fr 18=bC (T.aJ R)→nth fr 20=iv n →
  ∃ fr',cb (ae (CC LT6) run k Ap) (d+1) ⟨fr,hp,wr⟩=some (.exit 2,⟨fr',hp,wr⟩)∧QF fr' b p s x (T.aJ Y) q i∧nth fr' 18=bC (T.aJ (R % Y))∧nth fr' 20=iv (n+R / Y)
 | 0,n,R,fr,hR,hn,hR9,h,h18,h20=>by
  have hlt:R<Y:=by omega
  obtain⟨fr',g1,g2,g3,g4⟩:=Ao run k fr hp wr b p s x (T.aJ Y) _ q i _ _ (by unfold dS;rw[if_pos hlt];omega) (yb run R Y (by omega) (by omega)) h h18 h20
  exact⟨fr',bu g1,g2,by rw[g3,Nat.mod_eq_of_lt hlt],by rw[g4,Nat.div_eq_of_lt hlt,Nat.add_zero]⟩
 | d+1,n,R,fr,hR,hn,hR9,h,h18,h20=>by
  by_cases hlt:R<Y
  ·obtain⟨fr',g1,g2,g3,g4⟩:=Ao run k fr hp wr b p s x (T.aJ Y) _ q i _ _ (by unfold dS;rw[if_pos hlt];omega) (yb run R Y (by omega) (by omega)) h h18 h20
   exact⟨fr',bu g1,g2,by rw[g3,Nat.mod_eq_of_lt hlt],by rw[g4,Nat.div_eq_of_lt hlt,Nat.add_zero]⟩
  ·have hge:Y≤R:=by omega
   have hz:0≤dS R Y:=by
    unfold dS
    rw[if_neg hlt]
    split <;> omega
   obtain⟨fr1,g1,g2,g3,g4⟩:=Um run k fr hp wr b p s x (T.aJ Y) _ _ q i n _ hz (by omega) (yb run R Y (by omega) (by omega)) (adn run R Y (by omega) (by omega) hge) h h18 h20
   have hl:(T.aJ (R - Y)).length<9000000:=Nat.lt_of_le_of_lt (T.cC (by omega)) hR9
   obtain⟨fr',q1,q2,q3,q4⟩:=xk run k hp wr b p s x q i Y hY hY9 d (n+1) (R - Y) fr1 (by
    rw[Nat.add_mul (d+1) 1,Nat.one_mul] at hR
    omega) (by omega) hl g2 g3 g4
   refine⟨fr',by rw[bT g1];exact q1,q2,?_,?_⟩
   ·rw[q3,Nat.mod_eq_sub_mod hge]
   ·rw[q4,Nat.div_eq_sub_div hY hge]
    congr 1
    omega
theorem Uj:jf = .seq (seq1 jf) (.seq (.block 1 uu) (ai 2 jf)):=rfl
theorem Oq:ai 2 uu = .seq (.block 2 (.loop Ap)) (ai 3 uu):=rfl
theorem Oo(b:PV)(p s:Bool)(x y r:Ω)(q:PV)(h:QF fr b p s x y q (.sc (.int .i64 (-1))))(h18:nth fr 18=bC r) :
  ∃ fr',ae (CC L) run k jf ⟨fr,hp,wr⟩=some (.exit 0,⟨fr',hp,wr⟩)∧QF fr' b p s x y q (.sc (.int .i64 (-1)))∧nth fr' 18=bC r:=by
 obtain⟨h0,h1,h12,h13,h14,h15,h17,h19⟩:=h
 simp[QF,jf,f121,aA,and_assoc,h0,h1,h12,h13,h14,h15,h17,h18,h19]
theorem Uk(b:PV)(p s:Bool)(x y r:Ω)(q:PV)(i:Nat)(h:QF fr b p s x y q (iv i))(h18:nth fr 18=bC r) :
  ∃ fr',ae (CC L) run k (seq1 jf) ⟨fr,hp,wr⟩=some (.normal,⟨fr',hp,wr⟩)∧QF fr' b p s x y q (iv i)∧nth fr' 18=bC r:=by
 obtain⟨h0,h1,h12,h13,h14,h15,h17,h19⟩:=h
 simp only[iv] at h19
 simp[QF,jf,f121,aA,seq1,and_assoc,h0,h1,h12,h13,h14,h15,h17,h18,h19,iv]
set_option maxHeartbeats 1000000 in
theorem Ot(b:PV)(p s:Bool)(x y r:Ω)(q:PV)(i:Nat)(hx:T.Dok x)(hr:T.Dok r)(hi:i<x.length)(hr9:r.length<8000000)(h:QF fr b p s x y q (iv i))(h18:nth fr 18=bC r) :
  ∃ fr' hp' wr',bh (CC LT6) run k 2 uu ⟨fr,hp,wr⟩=some ⟨fr',hp',wr'⟩∧QF fr' b p s x y q (iv i)∧nth fr' 18=bC (T.aJ (at0 x i+10*T.val r))∧nth fr' 20=iv 0∧su hp hp':=by
 obtain⟨h0,h1,h12,h13,h14,h15,h17,h19⟩:=h
 have hda:=fE x i hi
 have hd9:=T.cn hx i
 generalize at0 x i=d at *
 obtain⟨p',hp1,fp,hp2,fp',g1,g2,g3⟩:=Gm run false hp [d] r (T.Dok.nil.cons hd9) hr (by simp;omega)
 have e:T.val ([d]++r)=d+10*T.val r:=rfl
 rw[e] at g2
 have hlX:fY TT 24 1 [(0,.sc (.int .i64 (d:Int)))]=some (1,[iv d]):=nG d
 have hrd:fW hp 1 (bC r)=some (r.length,r.map iv,[]):=by simp[fW,bC,mX]
 have g1':cU hp 1 (.imm 1 true [iv d]) r.length (r.map iv)=some (p',hp1,fp):=g1
 have hok:=jl.U0 r
 have e1:bC x = .imm x.length false (x.map iv):=rfl
 rw[e1] at h13
 simp only[iv] at h19 ⊢
 simp[QF,e1,uu,jf,f121,aA,aQ,bh,bd,bn,partOf,bc,and_assoc,h0,h1,h12,h13,h14,h15,h17,h18,h19,hi,hda,aU,uL,sI,aI,bI,zI,ch,hlX,hrd,hok,iW,g1',g2,g3]
theorem HU(b:PV)(p s:Bool)(x y r out:Ω)(q i:PV)(n:Nat)(ho9:out.length<20000000)(h:QF fr b p s x y q i)(h18:nth fr 18=bC r)(h20:nth fr 20=iv n)(hO:dt iv 0 hp out q) :
  ∃ fr' hp' wr' q',ae (CC L) run k (ai 3 uu) ⟨fr,hp,wr⟩=some (.normal,⟨fr',hp',wr'⟩)∧QF fr' b p s x y q' i∧nth fr' 18=bC r∧dt iv 0 hp' (out++[n]) q':=by
 obtain⟨h0,h1,h12,h13,h14,h15,h17,h19⟩:=h
 obtain⟨q',hp',fp,g1,g2,-⟩:=hO.app n (by omega)
 have hlX:fY TT 24 1 [(0,.sc (.int .i64 (n:Int)))]=some (1,[iv n]):=nG n
 simp only[iv] at h20
 refine (fun ⟨fr',wr',h⟩=>⟨fr',hp',wr',q',h⟩:(∃ fr' wr',_)→_) ?_
 simp[QF,uu,jf,f121,aA,aQ,bc,and_assoc,bg,dQ,h0,h1,h12,h13,h14,h15,h17,h18,h19,h20,uL,sI,bI,zI,ch,hlX,lT,iW,g1,g2]
theorem Ui(b:PV)(p s:Bool)(x y r:Ω)(q:PV)(i:Nat)(hi:i<20000000)(h:QF fr b p s x y q (iv i))(h18:nth fr 18=bC r) :
  ∃ fr',ae (CC L) run k (ai 2 jf) ⟨fr,hp,wr⟩=some (.normal,⟨fr',hp,wr⟩)∧QF fr' b p s x y q (.sc (.int .i64 ((i:Int) - 1)))∧nth fr' 18=bC r:=by
 obtain⟨h0,h1,h12,h13,h14,h15,h17,h19⟩:=h
 have hw:=cM i (by omega)
 simp only[iv] at h19
 simp[QF,jf,f121,aA,and_assoc,h0,h1,h12,h13,h14,h15,h17,h18,h19,hw]
theorem xh (run:aw)(kk:Nat)(b:PV)(p s:Bool)(x:Ω)(Y:Nat)(hx:T.Dok x)(hx9:x.length<7000000)(hY:0<Y)(hY9:(T.aJ Y).length<7000000)(hkk:11≤kk) :
  ∀ (J R:Nat) (fr:Ψ) (hp:Θ) (wr:Ω) (out:Ω) (q:PV),J≤x.length→R<Y→out.length+J≤x.length→T.Dok out→T.val (x.drop J)=Y*T.val out.reverse+R→QF fr b p s x (T.aJ Y) q (.sc (.int .i64 ((J:Int) - 1)))→nth fr 18=bC (T.aJ R)→dt iv 0 hp out q →
  ∃ (fr':Ψ) (hp':Θ) (wr':Ω) (out':Ω) (q':PV),cb (ae (CC LT6) run kk jf) (J+1) ⟨fr,hp,wr⟩=some (.exit 0,⟨fr',hp',wr'⟩)∧QF fr' b p s x (T.aJ Y) q' (.sc (.int .i64 (-1)))∧nth fr' 18=bC (T.aJ (T.val x % Y))∧dt iv 0 hp' out' q'∧T.Dok out'∧T.val out'.reverse=T.val x / Y∧out'.length≤x.length
 | 0,R,fr,hp,wr,out,q,hJ,hR,hol,hod,hv,h,h18,hO=>by
  have h':QF fr b p s x (T.aJ Y) q (.sc (.int .i64 (-1))):=h
  obtain⟨fr',g1,g2,g3⟩:=Oo LT6 run kk fr hp wr b p s x _ _ q h' h18
  rw[drop_zero] at hv
  have e1:T.val x % Y=R:=by rw[hv,Nat.mul_add_mod,Nat.mod_eq_of_lt hR]
  have e2:T.val x / Y=T.val out.reverse:=by rw[hv,Nat.mul_add_div hY,Nat.div_eq_of_lt hR,Nat.add_zero]
  exact⟨fr',hp,wr,out,q,bu g1,g2,by rw[g3,e1],hO,hod,e2.symm,by omega⟩
 | i+1,R,fr,hp,wr,out,q,hJ,hR,hol,hod,hv,h,h18,hO=>by
  have hi:i<x.length:=by omega
  have h':QF fr b p s x (T.aJ Y) q (iv i):=by
   have e:PV.sc (.int .i64 (((i+1:Nat):Int) - 1))=iv i:=by simp[iv]
   rw[← e];exact h
  have hR9:=T.cC (Nat.le_of_lt hR)
  have hd9:=T.cn hx i
  obtain⟨f1,a1,a2,a3⟩:=Uk LT6 run kk fr hp wr b p s x _ _ q i h' h18
  obtain⟨f2,hp2,wr2,b1,b2,b3,b4,b5⟩:=Ot run kk f1 hp wr b p s x _ _ q i hx (T.bU R) hi (by omega) a2 a3
  rw[T.bX] at b3
  have hlt:at0 x i+10*R<(9+1)*Y:=by omega
  have hl9:(T.aJ (at0 x i+10*R)).length<9000000:=by
   have h1:=T.cC (show at0 x i+10*R≤10*Y by omega)
   have h2:(T.aJ (10*Y)).length≤(T.aJ Y).length+1:=T.df (by
    rw[Nat.pow_succ,Nat.mul_comm]
    exact Nat.mul_lt_mul_of_pos_right (T.fD Y) (by omega))
   omega
  obtain⟨f3,c1,c2,c3,c4⟩:=xk run kk hp2 wr2 b p s x q (iv i) Y hY (by omega) 9 0 _ f2 hlt (by omega) hl9 b2 b3 b4
  rw[Nat.zero_add] at c4
  obtain⟨f4,hp4,wr4,q4,d1,d2,d3,d4⟩:=HU LT6 run kk f3 hp2 wr2 b p s x _ _ out q (iv i) _ (by omega) c2 c3 c4 (dt.grow hO b5)
  obtain⟨f5,e1,e2,e3⟩:=Ui LT6 run kk f4 hp4 wr4 b p s x _ _ q4 i (by omega) d2 d3
  have hB:ae (CC LT6) run kk uu ⟨f1,hp,wr⟩=some (.normal,⟨f4,hp4,wr4⟩):=by
   rw[aY 2 b1,Oq,ar (bE (bK c1 (by omega)))]
   exact d1
  have hO1:ae (CC LT6) run kk jf ⟨fr,hp,wr⟩=some (.normal,⟨f5,hp4,wr4⟩):=by
   rw[Uj,ar a1,ar (fF hB)]
   exact e1
  have hq9:(at0 x i+10*R) / Y<10:=Nat.div_lt_of_lt_mul (by omega)
  have hdm:=Nat.div_add_mod (at0 x i+10*R) Y
  obtain⟨fr',hp',wr',out',q',r1,r2⟩:=xh run kk b p s x Y hx hx9 hY hY9 hkk i ((at0 x i+10*R) % Y) f5 hp4 wr4 (out++[(at0 x i+10*R) / Y]) q4 (by omega) (Nat.mod_lt _ hY) (by simp;omega) (hod.append (T.Dok.nil.cons hq9)) (by
   rw[T.iA x i hi,hv,reverse_append]
   show at0 x i+10*(Y*T.val out.reverse+R)=Y*((at0 x i+10*R) / Y+10*T.val out.reverse)+(at0 x i+10*R) % Y
   rw[Nat.mul_add Y,← Nat.mul_assoc Y 10,Nat.mul_comm Y 10,Nat.mul_assoc 10,Nat.mul_add 10]
   omega) e2 e3 d4
  exact⟨fr',hp',wr',out',q',by rw[bT hO1];exact r1,r2⟩
def rh:Code:=(aA (ai 10 dC)).getD .skip
def s9:Code:=match aQ rh with | .seq (.block _ c) _=>c | c=>c
theorem abf:((Region.before (gG s9))[21]?.getD 0).testBit 15=true:=by kernel_rfl
theorem abe:((Region.before (gG s9))[21]?.getD 0).testBit 19=true:=by kernel_rfl
theorem abd:((Region.before (gG s9))[23]?.getD 0).testBit 15=true:=by kernel_rfl
theorem abc:((Region.before (gG s9))[23]?.getD 0).testBit 19=true:=by kernel_rfl
theorem abb:((Region.before (gG s9))[23]?.getD 0).testBit 21=true:=by kernel_rfl
def SF (fr:Ψ)(b:PV)(p s:Bool)(r:Ω)(q:PV):Prop :=
 fr.length=164∧nth fr 1=b∧nth fr 12 = .sc (.bool p)∧nth fr 14 = .sc (.bool s)∧nth fr 18=bC r∧nth fr 17=q
theorem An(b:PV)(p s:Bool)(r:Ω)(q:PV)(n i:Nat)(hn9:n<20000000)(hq:cX q=some n)(hi:n / 2≤i)(h:SF fr b p s r q)(h21:nth fr 21=iv i) :
  ∃ fr',ae (CC L) run k rh ⟨fr,hp,wr⟩=some (.exit 4,⟨fr',hp,wr⟩)∧SF fr' b p s r q:=by
 obtain⟨h0,h1,h12,h14,h18,h17⟩:=h
 obtain⟨m,hm⟩:∃ m,m=n / 2:=⟨_,rfl⟩
 rw[← hm] at hi
 have hd:((n:Int) / 2)=(m:Int):=by omega
 have hm9:m<20000000:=by rw[hm];exact Nat.lt_of_le_of_lt (Nat.div_le_self _ _) hn9
 clear hm
 have hw:=cq .i64 m (hiI (by omega))
 have hlt2 : ¬ (i<m):=by omega
 simp only[iv] at h21
 simp[SF,rh,dC,f121,aA,bL,bc,h0,h1,h12,h14,h18,h17,h21,uL,hq,hd,hw,hlt2]
set_option maxHeartbeats 8000000 in
theorem Eo(b:PV)(p s:Bool)(r l z:Ω)(id n i j:Nat)(hn9:n<20000000)(hn:l.length=n)(hb:aL hp id=some ⟨.live,(l++z).map iv⟩)(hi:i<n / 2)(hj:n=i+j+1)(h:SF fr b p s r (.own id 1 0 n false))(h21:nth fr 21=iv i) :
  ∃ fr' wr',ae (CC L) run k rh ⟨fr,hp,wr⟩=some (.normal,⟨fr',cg (cg hp id ⟨.live,((l++z).set i (at0 l j)).map iv⟩) id ⟨.live,(((l++z).set i (at0 l j)).set j (at0 l i)).map iv⟩,wr'⟩)∧SF fr' b p s r (.own id 1 0 n false)∧nth fr' 21=iv (i+1):=by
 obtain⟨h0,h1,h12,h14,h18,h17⟩:=h
 obtain⟨m,hm⟩:∃ m,m=n / 2:=⟨_,rfl⟩
 have hin:i<n:=by omega
 have hjn:j<n:=by omega
 have hij:i≠j:=by omega
 rw[← hm] at hi
 have hm9:m<20000000:=by rw[hm];exact Nat.lt_of_le_of_lt (Nat.div_le_self _ _) hn9
 have hw:=cq .i64 m (hiI (Nat.le_trans (Nat.le_of_lt hm9) (by decide)))
 have hw1:=cM n (Nat.lt_trans hn9 (by decide))
 have hw2:bA .i64 ((n:Int) - 1 - (i:Int))=(j:Int):=by rw[show ((n:Int) - 1 - (i:Int))=(j:Int) by omega];exact cq .i64 j (hiI (Nat.le_trans (Nat.le_of_lt (Nat.lt_trans hjn hn9)) (by decide)))
 have hwi:=bD i (Nat.lt_trans (Nat.lt_trans hin hn9) (by decide))
 have hd:((n:Int) / 2)=(m:Int):=by rw[hm];rfl
 clear hm
 have hil:i<(l++z).length:=by simp;omega
 have hjl:j<(l++z).length:=by simp;omega
 have ha:at0 (l++z) i=at0 l i:=by unfold at0;rw[getElem?_append_left (by omega)]
 have hb':at0 (l++z) j=at0 l j:=by unfold at0;rw[getElem?_append_left (by omega)]
 have hd1:=fE (l++z) i hil
 have hd2:=fE (l++z) j hjl
 rw[ha] at hd1
 rw[hb'] at hd2
 have hov:=mK (e:=iv) (l++z) i (at0 l j) hil
 have hov2:=mK (e:=iv) ((l++z).set i (at0 l j)) j (at0 l i) (by rw[length_set];exact hjl)
 have hsb:aL (cg hp id ⟨.live,((l++z).set i (at0 l j)).map iv⟩) id=some ⟨.live,((l++z).set i (at0 l j)).map iv⟩:=by rw[cI hb,if_pos rfl]
 generalize at0 l i=a at *
 generalize at0 l j=c at *
 generalize l++z=lz at *
 have hb1:=abf
 have hb2:=abe
 have hb3:=abd
 have hb4:=abc
 have hb5:=abb
 simp[-Nat.testBit_zero,s9,rh,dC,f121,aA,aQ,gG] at hb1 hb2 hb3 hb4 hb5
 simp only[iv] at h21 ⊢
 simp[-Nat.testBit_zero,-map_set,hb1,hb2,hb3,hb4,hb5,SF,rh,dC,f121,aA,bL,bd,bn,partOf,bc,and_assoc,iw,bg,sd,dQ,h0,h1,h12,h14,h18,h17,h21,uL,sI,aI,aU,hb,hsb,hi,hin,hjn,hd,hw,hw1,hw2,hwi,hd1,hd2,hov,hov2,qW a,qW c,number,FP.free,cw,FP.apart]
theorem nj (l:Ω)(i y m:Nat)(h:i<l.length):at0 (l.set i y) m=if m=i then y else at0 l m:=by
 by_cases e:m=i
 ·subst e;rw[if_pos rfl,dc (by simpa using h)];simp
 ·rw[if_neg e,gk (fun h=>e h.symm)]
theorem Cr {a b:Ω}(hl:a.length=b.length)(h:∀ m,m<a.length→at0 a m=at0 b m):a=b:=by
 refine ext_getElem hl fun m h1 h2 => ?_
 have:=h m h1
 rwa [dc h1,dc h2] at this
theorem ML (l:Ω)(m:Nat)(h:m<l.length):at0 l.reverse m=at0 l (l.length - 1 - m):=by
 rw[dc (by simpa using h),dc (by omega),getElem_reverse]
theorem xg (L:Lst)(run:aw)(k:Nat)(b:PV)(p s:Bool)(r l z:Ω)(id n:Nat)(hn9:n<20000000)(hn:l.length=n):∀ (d i:Nat) (fr:Ψ) (hp:Θ) (wr cur:Ω),i+d=n / 2→cur.length=n→id<hp.length→aL hp id=some ⟨.live,(cur++z).map iv⟩ →
  (∀ m,m<n→at0 cur m=if m<i∨n - i≤m then at0 l (n - 1 - m) else at0 l m)→SF fr b p s r (.own id 1 0 n false)→nth fr 21=iv i →
  ∃ (fr':Ψ) (hp':Θ) (wr':Ω),cb (ae (CC L) run k rh) (d+1) ⟨fr,hp,wr⟩=some (.exit 4,⟨fr',hp',wr'⟩)∧SF fr' b p s r (.own id 1 0 n false)∧dt iv 0 hp' l.reverse (.own id 1 0 n false)
 | 0,i,fr,hp,wr,cur,hd,hc,hid,hb,hI,h,h21=>by
  obtain⟨fr',g1,g2⟩:=An L run k fr hp wr b p s r _ n i hn9 rfl (by omega) h h21
  have e:cur=l.reverse:=Cr (by simp[hc,hn]) fun m hm=>by
   rw[hc] at hm
   rw[hI m hm,ML l m (by omega),hn]
   by_cases h1:m<i∨n - i≤m
   ·rw[if_pos h1]
   ·rw[if_neg h1]
    congr 1
    omega
  refine⟨fr',hp,wr,bu g1,g2,Nat.zero_le _,.inr ⟨id,z,Nat.zero_le _,hid,by simp[hn],?_⟩⟩
  rw[← e];exact hb
 | d+1,i,fr,hp,wr,cur,hd,hc,hid,hb,hI,h,h21=>by
  obtain⟨j,hj⟩:∃ j,n=i+j+1:=⟨n - i - 1,by omega⟩
  have hij:i<j:=by omega
  obtain⟨fr1,wr1,g1,g2,g3⟩:=Eo L run k fr hp wr b p s r cur z id n i j hn9 hc hb (by omega) hj h h21
  have e1:((cur++z).set i (at0 cur j)).set j (at0 cur i)=((cur.set i (at0 cur j)).set j (at0 cur i))++z:=by
   rw[set_append_left _ _ (by omega),set_append_left _ _ (by rw[length_set];omega)]
  rw[e1] at g1
  have hb1:aL (cg (cg hp id ⟨.live,((cur++z).set i (at0 cur j)).map iv⟩) id ⟨.live,(((cur.set i (at0 cur j)).set j (at0 cur i))++z).map iv⟩) id=some ⟨.live,(((cur.set i (at0 cur j)).set j (at0 cur i))++z).map iv⟩:=by
   rw[cI (b0:=⟨.live,((cur++z).set i (at0 cur j)).map iv⟩) (by rw[cI hb,if_pos rfl]),if_pos rfl]
  have hai:=hI i (by omega)
  have haj:=hI j (by omega)
  rw[if_neg (by omega)] at hai haj
  obtain⟨fr',hp',wr',q1,q2⟩:=xg L run k b p s r l z id n hn9 hn d (i+1) fr1 _ wr1 ((cur.set i (at0 cur j)).set j (at0 cur i)) (by omega) (by simp[hc]) (by rw[bJ,bJ];exact hid) hb1
   (fun m hm=>by
    rw[nj _ _ _ _ (by rw[length_set];omega),nj _ _ _ _ (by omega)]
    by_cases e2:m=j
    ·rw[if_pos e2,hai,if_pos (by omega)]
     congr 1
     omega
    ·rw[if_neg e2]
     by_cases e3:m=i
     ·rw[if_pos e3,haj,if_pos (by omega)]
      congr 1
      omega
     ·rw[if_neg e3,hI m hm]
      by_cases e4:m<i∨n - i≤m
      ·rw[if_pos e4,if_pos (by omega)]
      ·rw[if_neg e4,if_neg (by omega)]) g2 g3
  exact⟨fr',hp',wr',by rw[bT g1];exact q1,q2⟩
theorem On (L:Lst)(run:aw)(k:Nat)(b:PV)(p s:Bool)(r l:Ω)(q:PV)(hn9:l.length<20000000)(fr:Ψ)(hp:Θ)(wr:Ω)(hO:dt iv 0 hp l q)(h:SF fr b p s r q)(h21:nth fr 21=iv 0) :
  ∃ (fr':Ψ) (hp':Θ) (wr':Ω),cb (ae (CC L) run k rh) (l.length / 2+1) ⟨fr,hp,wr⟩=some (.exit 4,⟨fr',hp',wr'⟩)∧SF fr' b p s r q∧dt iv 0 hp' l.reverse q:=by
 obtain⟨hb,hO⟩:=hO
 rcases hO with ⟨rfl,rfl⟩| ⟨id,z,h1,h2,rfl,h3⟩
 ·obtain⟨fr',g1,g2⟩:=An L run k fr hp wr b p s r _ 0 0 (by omega) rfl (by omega) h h21
  exact⟨fr',hp,wr,bu g1,g2,dt.nil hb⟩
 ·obtain⟨fr',hp',wr',g1,g2,g3⟩:=xg L run k b p s r l z id l.length hn9 rfl (l.length / 2) 0 fr hp wr l (by omega) rfl h2 h3 (fun m hm=>by rw[if_neg (by omega)]) h h21
  exact⟨fr',hp',wr',g1,g2,g3⟩
theorem Mi(z:Int)(h:Zm z):az LT6 run 115 [zs z] (.tup [.sc (.bool (bz z)),bC (T.aJ z.natAbs)]):=fun dr hp =>
 bt tR abQ run dr hp _ [.sc (.bool (bz z)),bC (T.aJ z.natAbs)] rfl rfl (XJ z h)
theorem AZ(z:Int)(h:Zm z):az LT6 run 113 [zs z] (.tup (bif (dT z).ble 9 then [Ab.bN z,.sc (.bool true)] else [Ab.bN 0,.sc (.bool false)])):=fun dr hp=>by
 have:=bt wE OW run dr hp [zs z] _ rfl rfl (SL z h)
 rw[this]
 cases (dT z).ble 9 <;> rfl
theorem vN(z:Int)(h1 : -9223372036854775808≤z)(h2:z≤9223372036854775807):az LT6 run 114 [.sc (.int .i64 z)] (zs z):=fun dr hp =>
 bt tS abO run dr hp _ [zs z] rfl rfl (by simp only[uw,decide_eq_true h1,decide_eq_true h2,Bool.and_self,cond_true])
set_option maxHeartbeats 1000000 in
theorem Uf (L:Lst)(run:aw)(k:Nat)(s t:ByteArray)(u v:Int)(f1 f2:Bool)(hf:(f1 && f2)=false)(g1:az L run 113 [.sc (.string s)] (.tup [Ab.bN u,.sc (.bool f1)]))(g2:az L run 113 [.sc (.string t)] (.tup [Ab.bN v,.sc (.bool f2)])) :
  ∃ fr,bh (CC L) run k 4 dC ⟨entry 164 [.sc (.string s),.sc (.string t)],[],[]⟩=some ⟨fr,[],[]⟩∧fr.length=164∧nth fr 0 = .sc (.string s)∧nth fr 1 = .sc (.string t):=by
 obtain⟨e1,e2,e3⟩:=cl 162 (.sc (.string s)) (.sc (.string t))
 generalize entry 164 [.sc (.string s),.sc (.string t)]=fr0 at *
 unfold az at *
 simp only[Ab.bN] at *
 cases f1 <;> cases f2 <;> simp only[Bool.and_true,Bool.and_false,Bool.and_self,Bool.true_eq_false] at hf <;> simp[dC,f121,bh,e1,e2,e3,g1,g2,undef]
theorem Ug(s t:ByteArray)(m n:Bool)(a b:Ω)(g1:az L run 115 [.sc (.string s)] (.tup [.sc (.bool m),bC a]))(g2:az L run 115 [.sc (.string t)] (.tup [.sc (.bool n),bC b]))
  (h0':fr.length=164) (h0:nth fr 0 = .sc (.string s)) (h1:nth fr 1 = .sc (.string t)) :
  ∃ fr',bh (CC L) run k 2 (ai 4 dC) ⟨fr,[],[]⟩=some ⟨fr',[],[]⟩∧fr'.length=164∧nth fr' 1 = .sc (.string t)∧nth fr' 12 = .sc (.bool m)∧nth fr' 13=bC a∧nth fr' 14 = .sc (.bool n)∧nth fr' 15=bC b:=by
 unfold az at *
 simp[dC,f121,bh,h0',h0,h1,g1,g2]
set_option maxHeartbeats 1000000 in
theorem HT(b:PV)(m n:Bool)(x y:Ω)(t st:Nat)(hx9:x.length<7000000)(hy9:y.length<7000000)(ht:y.length=t+1)(hst:st=x.length - t)
  (h0':fr.length=164) (h1:nth fr 1=b) (h12:nth fr 12 = .sc (.bool m)) (h13:nth fr 13=bC x) (h14:nth fr 14 = .sc (.bool n)) (h15:nth fr 15=bC y) :
  ∃ fr',bh (CC L) run k 2 (ai 6 dC) ⟨fr,[],[]⟩=some ⟨fr',[],[]⟩∧fr'.length=164∧nth fr' 1=b∧nth fr' 12 = .sc (.bool m)∧nth fr' 13=bC x∧nth fr' 14 = .sc (.bool n)∧nth fr' 15=bC y∧nth fr' 16=iv st∧nth fr' 17 = .sc (.slice none 0 0):=by
 have hw1:bA .i64 ((y.length:Int) - 1)=(t:Int):=by rw[cM y.length (by omega)];omega
 have hmx:(if (0:Int)<(t:Int) then (t:Int) else 0)=(t:Int):=by split <;> omega
 have hmx1:mR true [.sc (.int .i64 0),.sc (.int .i64 (t:Int))]=some (.sc (.int .i64 (t:Int))):=by
  simp[mR]
  omega
 have hw2:bA .i64 ((x.length:Int) - (t:Int))=(x.length:Int) - (t:Int):=fm _ (by omega) (by omega)
 have hmx2:(if (0:Int)<(x.length:Int) - (t:Int) then (x.length:Int) - (t:Int) else 0)=(st:Int):=by split <;> omega
 have hmx3:mR true [.sc (.int .i64 0),.sc (.int .i64 ((x.length:Int) - (t:Int)))]=some (.sc (.int .i64 (st:Int))):=by
  simp[mR]
  split <;> omega
 simp only[iv]
 simp[dC,f121,bh,h0',h1,h12,h13,h14,h15,bL,bc,dP,uL,hw1,hmx1,hw2,hmx3]
theorem ajX:fY TT 24 0 []=some (1,[]):=by
 simp[fY,uL,sI,zI,rep,dH]
theorem slT (x:Ω)(st:Nat)(hp:Θ)(h:st≤x.length):dw TT hp 24 (bC x) (some (.sc (.int .i64 (st:Int)))) none none=some (.imm (x.length - st) false ((x.drop st).map iv)):=by
 have e:bC x = .imm x.length false (x.map iv):=rfl
 rw[e]
 simp only[dw,uL,iJ,sI,bnd,fv,bn]
 simp[gK,h]
 rw[cF,← map_drop,dh (by simp)]
 rw[take_of_length_le (by simp)]
set_option maxHeartbeats 1000000 in
theorem Ue(b:PV)(m n:Bool)(x y:Ω)(st:Nat)(hx:T.Dok x)(hx9:x.length<7000000)(hst:st≤x.length)
  (h0':fr.length=164) (h1:nth fr 1=b) (h12:nth fr 12 = .sc (.bool m)) (h13:nth fr 13=bC x) (h14:nth fr 14 = .sc (.bool n)) (h15:nth fr 15=bC y) (h16:nth fr 16=iv st) (h17:nth fr 17 = .sc (.slice none 0 0)) :
  ∃ fr' hp' wr',bh (CC LT6) run k 1 (ai 8 dC) ⟨fr,[],[]⟩=some ⟨fr',hp',wr'⟩∧fr'.length=164∧nth fr' 1=b∧nth fr' 12 = .sc (.bool m)∧nth fr' 13=bC x∧nth fr' 14 = .sc (.bool n)∧nth fr' 15=bC y∧nth fr' 16=iv st∧nth fr' 17 = .sc (.slice none 0 0)∧nth fr' 18=bC (T.aJ (T.val (x.drop st))):=by
 have hdk:=hx.drop st
 obtain⟨p',hp1,fp,hp2,fp',g1,g2,g3⟩:=Gm run false [] [] (x.drop st) T.Dok.nil hdk (by simp;omega)
 have hl:(x.drop st).length=x.length - st:=length_drop
 rw[nil_append] at g2
 have g1':cU [] 1 (.imm 0 true []) (x.length - st) ((x.drop st).map iv)=some (p',hp1,fp):=by rw[← hl];exact g1
 have hsl:=slT x st [] hst
 have hrd:fW [] 1 (.imm (x.length - st) false ((x.drop st).map iv))=some (x.length - st,(x.drop st).map iv,[]):=by simp[fW]
 have hok:=jl.U0 (x.drop st)
 have hlit:=ajX
 generalize (x.drop st).map iv=cs at *
 generalize T.val (x.drop st)=V at *
 simp only[iv] at h16 ⊢
 simp[dC,f121,bh,h0',h1,h12,h13,h14,h15,h16,h17,bc,and_assoc,uL,sI,bI,zI,ch,hlit,hsl,hrd,hok,bV,g1',g2]
def B6:Code:=seq1 (seq1 (ai 9 dC))
def B5:Code:=seq1 (seq1 (ai 10 dC))
theorem Ua:ai 9 dC = .seq (.seq B6 (.block 0 (.loop jf))) (ai 10 dC):=rfl
theorem Om:ai 10 dC = .seq (.seq B5 (.block 4 (.loop rh))) (ai 11 dC):=rfl
theorem Ud(b:PV)(m n:Bool)(x y r:Ω)(st:Nat)(hst:st<20000000)
  (h0':fr.length=164) (h1:nth fr 1=b) (h12:nth fr 12 = .sc (.bool m)) (h13:nth fr 13=bC x) (h14:nth fr 14 = .sc (.bool n)) (h15:nth fr 15=bC y) (h16:nth fr 16=iv st) (h17:nth fr 17 = .sc (.slice none 0 0)) (h18:nth fr 18=bC r) :
  ∃ fr',ae (CC L) run k B6 ⟨fr,hp,wr⟩=some (.normal,⟨fr',hp,wr⟩)∧QF fr' b m n x y (.sc (.slice none 0 0)) (.sc (.int .i64 ((st:Int) - 1)))∧nth fr' 18=bC r:=by
 have hw:=cM st (by omega)
 simp only[iv] at h16
 simp[QF,B6,dC,f121,seq1,h0',h1,h12,h13,h14,h15,h16,h17,h18,and_assoc,hw]
theorem Uc(b:PV)(m n:Bool)(x y r:Ω)(q i:PV)(h:QF fr b m n x y q i)(h18:nth fr 18=bC r) :
  ∃ fr',ae (CC L) run k B5 ⟨fr,hp,wr⟩=some (.normal,⟨fr',hp,wr⟩)∧SF fr' b m n r q∧nth fr' 21=iv 0:=by
 obtain⟨h0,h1,h12,h13,h14,h15,h17,h19⟩:=h
 simp[SF,B5,dC,f121,seq1,h0,h1,h12,h14,h17,h18,and_assoc,iv]
theorem WQ(m:Bool)(l:Ω)(h1:T.Dok l)(h2:l.length<10000000):az LT6 run 116 [.sc (.bool m),bC l] (zs (gM m (T.val l))):=fun dr hp =>
 bt kg EP run dr hp _ [zs (gM m (T.val l))] rfl (F5 m l) (BB m l h1 h2)
theorem Ub (run:aw)(k:Nat)(fr:Ψ)(hp hp':Θ)(wr:Ω)(b:PV)(p s:Bool)(r:Ω)(q:PV)(sq sr:ByteArray)(fp:FP)(h:SF fr b p s r q)
  (hc1:bP (CC LT6) run false hp 116 [.sc (.bool (p != s)),q]=some (.sc (.string sq),hp',fp)) (hc2:az LT6 run 116 [.sc (.bool p),bC r] (.sc (.string sr))) :
  ∃ fr' wr',bh (CC LT6) run k 1 (ai 11 dC) ⟨fr,hp,wr⟩=some ⟨fr',hp',wr'⟩∧fr'.length=164∧nth fr' 1=b∧nth fr' 12 = .sc (.bool p)∧nth fr' 14 = .sc (.bool s)∧nth fr' 22 = .sc (.string sq)∧nth fr' 23 = .sc (.string sr):=by
 obtain⟨h0,h1,h12,h14,h18,h17⟩:=h
 unfold az at hc2
 cases p <;> cases s <;> simp only[bne_self_eq_false,Bool.bne_true,Bool.bne_false,Bool.not_false] at hc1 <;> simp[dC,f121,bh,h0,h1,h12,h14,h18,h17,dK,bc,and_assoc,uB,hc1,hc2]
set_option maxHeartbeats 1000000 in
theorem xf(b:PV)(p s v:Bool)(sq sr:ByteArray)(hv:fw .neq sr { data:=#[48] } = some (.bool v))(hno:(v && (p != s))=false)
  (h0:fr.length=164) (h1:nth fr 1=b) (h12:nth fr 12 = .sc (.bool p)) (h14:nth fr 14 = .sc (.bool s)) (h22:nth fr 22 = .sc (.string sq)) (h23:nth fr 23 = .sc (.string sr)) :
  ∃ st,ae (CC L) run k (ai 12 dC) ⟨fr,hp,wr⟩=some (.ret,st)∧aX TT st.fr st.hp f121.results.toList=some [.sc (.string sq),.sc (.string sr)]:=by
 cases v <;> cases p <;> cases s <;> simp only[bne_self_eq_false,Bool.bne_true,Bool.bne_false,Bool.not_false,Bool.and_true,Bool.and_false,Bool.and_self,Bool.true_eq_false] at hno <;> simp[dC,f121,h0,h12,h14,h22,h23,dK,bc,uB,hv,undef,aX]
set_option maxHeartbeats 1000000 in
theorem Uh(b sq sr q2 r2:ByteArray)(hv:fw .neq sr { data:=#[48] } = some (.bool true))(g1:az L run 157 [.sc (.string sq),.sc (.string { data:=#[49] })] (.sc (.string q2)))(g2:az L run 66 [.sc (.string sr),.sc (.string b)] (.sc (.string r2)))
  (h0:fr.length=164) (h1:nth fr 1 = .sc (.string b)) (h12:nth fr 12 = .sc (.bool true)) (h14:nth fr 14 = .sc (.bool false)) (h22:nth fr 22 = .sc (.string sq)) (h23:nth fr 23 = .sc (.string sr)) :
  ∃ st,ae (CC L) run k (ai 12 dC) ⟨fr,hp,wr⟩=some (.ret,st)∧aX TT st.fr st.hp f121.results.toList=some [.sc (.string q2),.sc (.string r2)]:=by
 unfold az at *
 simp[dC,f121,h0,h1,h12,h14,h22,h23,dK,bc,uB,hv,g1,g2,aX]
theorem vQ:∀ (a b:List UInt8),eqL a b=decide (a=b)
 | [],[]=>rfl
 | [],_::_=>by simp[eqL]
 | _::_,[]=>by simp[eqL]
 | a::l,b::m=>by
  have:=vQ l m
  simp only[eqL,this]
  have hn:(a.toNat == b.toNat)=decide (a=b):=by
   by_cases h:a=b
   ·subst h;simp
   ·rw[decide_eq_false h,beq_eq_false_iff_ne];exact fun e=>h (UInt8.toNat_inj.1 e)
  rw[hn]
  by_cases h:a=b <;> by_cases h2:l=m <;> simp[h,h2]
theorem ae2 (z:Int):ztx z=[48] ↔ z=0:=by
 constructor
 ·intro h
  have h1:=cG z (by rw[h];decide)
  have h2:=cG 0 (by decide)
  have:zs z=zs 0:=by unfold zs;rw[h];rfl
  rw[this,h2] at h1
  exact (Option.some.inj h1).symm
 ·intro h;subst h;rfl
theorem Db {a b:Ω}(ha:Bok a)(hb:Bok b):tx a=tx b ↔ a=b:=by
 constructor
 ·intro h
  rw[← jW ha,h,jW hb]
 ·intro h;rw[h]
theorem rC (z:Int):fw .neq (tx (ztx z)) { data:=#[48] } = some (.bool (!decide (z=0))):=by
 have e:({ data:=#[48] } : ByteArray)=tx [48]:=rfl
 have h1:decide (bQ (tx (ztx z))=bQ (tx [48]))=decide (z=0):=by
  have:(bQ (tx (ztx z))=bQ (tx [48])) ↔ z=0:=by
   rw[← ae2 z]
   constructor
   ·intro h
    have:tx (ztx z)=tx [48]:=by rw[← gE (tx (ztx z)),h,gE]
    exact (Db (lq z) (Bok.nil.cons (by omega))).1 this
   ·intro h;rw[h]
  simp only[this]
 rw[e]
 simp only[fw,vQ,h1]
set_option maxHeartbeats 2000000 in
theorem abh(s t sq sr:ByteArray)(u v q r:Int)(g1:az L run 113 [.sc (.string s)] (.tup [Ab.bN u,.sc (.bool true)]))(g2:az L run 113 [.sc (.string t)] (.tup [Ab.bN v,.sc (.bool true)]))
  (hv0 : ¬ v=0) (hv : ¬ v<0) (hq:bA .i64 (u.tdiv v)=q) (hr:u.tmod v=r) (hr0 : ¬ r<0) (g3:az L run 114 [.sc (.int .i64 q)] (.sc (.string sq))) (g4:az L run 114 [.sc (.int .i64 r)] (.sc (.string sr))) :
  ∃ st,ae (CC L) run k dC ⟨entry 164 [.sc (.string s),.sc (.string t)],[],[]⟩=some (.ret,st)∧aX TT st.fr st.hp f121.results.toList=some [.sc (.string sq),.sc (.string sr)]:=by
 obtain⟨e1,e2,e3⟩:=cl 162 (.sc (.string s)) (.sc (.string t))
 generalize entry 164 [.sc (.string s),.sc (.string t)]=fr0 at *
 unfold az at *
 simp only[Ab.bN] at *
 by_cases h0:r=0
 ·subst h0
  simp[dC,f121,e1,e2,e3,g1,g2,hv0,hq,hr,g3,g4,undef,number,FP.free,aX]
 ·have h1:(r != 0)=true:=by simpa using h0
  simp[dC,f121,e1,e2,e3,dK,bc,uB,g1,g2,hv0,hv,hq,hr,hr0,h1,g3,g4,number,FP.free,aX]
set_option maxHeartbeats 2000000 in
theorem abg(s t sq sr:ByteArray)(u v q0 r0 q r:Int)(g1:az L run 113 [.sc (.string s)] (.tup [Ab.bN u,.sc (.bool true)]))(g2:az L run 113 [.sc (.string t)] (.tup [Ab.bN v,.sc (.bool true)]))
  (hv0 : ¬ v=0) (hv : ¬ v<0) (hq:bA .i64 (u.tdiv v)=q0) (hr:u.tmod v=r0) (hr0:r0<0) (hq1:bA .i64 (q0 - 1)=q) (hr1:bA .i64 (r0+v)=r) (g3:az L run 114 [.sc (.int .i64 q)] (.sc (.string sq))) (g4:az L run 114 [.sc (.int .i64 r)] (.sc (.string sr))) :
  ∃ st,ae (CC L) run k dC ⟨entry 164 [.sc (.string s),.sc (.string t)],[],[]⟩=some (.ret,st)∧aX TT st.fr st.hp f121.results.toList=some [.sc (.string sq),.sc (.string sr)]:=by
 obtain⟨e1,e2,e3⟩:=cl 162 (.sc (.string s)) (.sc (.string t))
 generalize entry 164 [.sc (.string s),.sc (.string t)]=fr0 at *
 unfold az at *
 simp only[Ab.bN] at *
 have h0 : ¬ r0=0:=by omega
 have h1:(r0 != 0)=true:=by simpa using h0
 simp[dC,f121,e1,e2,e3,dK,bc,uB,g1,g2,hv0,hv,hq,hr,hr0,h1,hq1,hr1,g3,g4,number,FP.free,aX]
def ur:Ψ→Option Ψ
 | [p,q]=>match fP p,fP q with
  | some x,some y=>bif decide (0<y) then some [zs (x / y),zs (x % y)] else none
  | _,_=>none
 | _=>none
theorem s0 (K:Nat)(x y:Int)(hx:Zm x)(hy:Zm y)(hy0:0<y)(hK:(T.aJ x.natAbs).length+20≤K)(u v:Int)(f1 f2:Bool)(hf:(f1 && f2)=false)(q1:az LT6 (runK (CC LT6) K) 113 [zs x] (.tup [Ab.bN u,.sc (.bool f1)]))(q2:az LT6 (runK (CC LT6) K) 113 [zs y] (.tup [Ab.bN v,.sc (.bool f2)])) :
  ∃ st,ae (CC LT6) (runK (CC LT6) K) K dC ⟨entry 164 [zs x,zs y],[],[]⟩=some (.ret,st)∧aX TT st.fr st.hp f121.results.toList=some [zs (x / y),zs (x % y)]:=by
 have hx3:=Zm.Mz hx
 have hy3:=Zm.Mz hy
 have hY:0<y.natAbs:=by omega
 have hny:bz y=false:=by rw[cL];simp;omega
 obtain⟨a1,b1,b2,b3,b4⟩:=Uf LT6 (runK (CC LT6) K) K _ _ u v f1 f2 hf q1 q2
 obtain⟨a2,c1,c2,c3,c4,c5,c6,c7⟩:=Ug LT6 (runK (CC LT6) K) K a1 _ _ _ _ _ _ (Mi _ x hx) (Mi _ y hy) b2 b3 b4
 have hyl:=T.cT.2 (show y.natAbs≠0 by omega)
 obtain⟨t,ht⟩:∃ t,(T.aJ y.natAbs).length=t+1:=⟨(T.aJ y.natAbs).length - 1,by omega⟩
 obtain⟨st,hst⟩:∃ st,st=(T.aJ x.natAbs).length - t:=⟨_,rfl⟩
 obtain⟨a3,d1,d2,d3,d4,d5,d6,d7,d8,d9⟩:=HT LT6 (runK (CC LT6) K) K a2 _ _ _ _ _ t st (by omega) (by omega) ht hst c2 c3 c4 c5 c6 c7
 obtain⟨a4,hp4,wr4,e1,e2,e3,e4,e5,e6,e7,e8,e9,e10⟩:=Ue (runK (CC LT6) K) K a3 _ _ _ _ _ st (T.bU x.natAbs) (by omega) (by omega) d2 d3 d4 d5 d6 d7 d8 d9
 obtain⟨a5,g1,g2,g3⟩:=Ud LT6 (runK (CC LT6) K) K a4 hp4 wr4 _ _ _ _ _ _ st (by omega) e2 e3 e4 e5 e6 e7 e8 e9 e10
 have hR0:T.val ((T.aJ x.natAbs).drop st)<y.natAbs:=by
  have h1:=T.eW ((T.bU x.natAbs).drop st)
  rw[length_drop] at h1
  have h2:10 ^ t≤y.natAbs:=by
   rcases Nat.lt_or_ge y.natAbs (10 ^ t) with h | h
   ·have:=T.df h;omega
   ·exact h
  have h3:10 ^ ((T.aJ x.natAbs).length - st)≤10 ^ t:=Nat.pow_le_pow_right (by omega) (by omega)
  omega
 obtain⟨a6,hp6,wr6,out,q6,k1,k2,k3,k4,k5,k6,k7⟩:=xh (runK (CC LT6) K) K _ _ _ (T.aJ x.natAbs) y.natAbs (T.bU _) (by omega) hY (by omega) (by omega) st _ a5 hp4 wr4 [] _ (by omega) hR0 (by simp;omega) T.Dok.nil (by simp[T.val]) g2 g3 (dt.nil (Nat.zero_le _))
 rw[T.bX] at k3 k6
 obtain⟨a7,l1,l2,l3⟩:=Uc LT6 (runK (CC LT6) K) K a6 hp6 wr6 _ _ _ _ _ _ _ _ k2 k3
 obtain⟨a8,hp8,wr8,m1,m2,m3⟩:=On LT6 (runK (CC LT6) K) K _ _ _ _ out q6 (by omega) a7 hp6 wr6 k4 l2 l3
 have hor:T.Dok out.reverse:=yI k5
 have htx:=BB (bz x != bz y) out.reverse hor (by rw[length_reverse];omega)
 rw[k6] at htx
 obtain⟨hp9,fp,n1,-⟩:=pz kg EP (runK (CC LT6) K) false jl (bz x != bz y) m3.s _ htx
 have hrl:(T.aJ (x.natAbs % y.natAbs)).length<10000000:=Nat.lt_of_le_of_lt (T.cC (Nat.le_of_lt (Nat.mod_lt _ hY))) (by omega)
 have n2:=WQ (runK (CC LT6) K) (bz x) (T.aJ (x.natAbs % y.natAbs)) (T.bU _) hrl
 rw[T.bX] at n2
 obtain⟨a9,wr9,o1,o2,o3,o4,o5,o6,o7⟩:=Ub (runK (CC LT6) K) K a8 hp8 hp9 wr8 _ _ _ _ _ _ _ fp m2 n1 n2
 have hex:∀ {z},ae (CC LT6) (runK (CC LT6) K) K (ai 12 dC) ⟨a9,hp9,wr9⟩=z→ae (CC LT6) (runK (CC LT6) K) K dC ⟨entry 164 [zs x,zs y],[],[]⟩=z:=by
  intro z hz
  have h1:ae (CC LT6) (runK (CC LT6) K) K dC ⟨entry 164 [zs x,zs y],[],[]⟩=ae (CC LT6) (runK (CC LT6) K) K (ai 4 dC) ⟨a1,[],[]⟩:=aY 4 b1
  rw[h1,aY 2 c1,show ai 2 (ai 4 dC)=ai 6 dC from rfl,aY 2 d1,show ai 2 (ai 6 dC)=ai 8 dC from rfl,aY 1 e1,show ai 1 (ai 8 dC)=ai 9 dC from rfl,
   Ua,ar ((ar g1).trans (bE (bK k1 (by omega)))),Om,ar ((ar l1).trans (bE (bK m1 (by omega)))),aY 1 o1]
  exact hz
 rw[hny] at o5
 by_cases hxn:x<0
 ·have hnx:bz x=true:=by rw[cL];simpa using hxn
  rw[hnx] at o4
  have eq1:gM (bz x != bz y) (x.natAbs / y.natAbs) = -((x.natAbs / y.natAbs:Nat):Int):=by rw[hnx,hny,kP];rfl
  have er1:gM (bz x) (x.natAbs % y.natAbs) = -((x.natAbs % y.natAbs:Nat):Int):=by rw[hnx,kP];rfl
  rw[eq1] at o6
  rw[er1] at o7
  by_cases h0:x.natAbs % y.natAbs=0
  ·obtain⟨w1,w2⟩:=adw hy0 hxn h0
   have hv:=rC (-((x.natAbs % y.natAbs:Nat):Int))
   obtain⟨st',x1,x2⟩:=xf LT6 (runK (CC LT6) K) K a9 hp9 wr9 _ true false _ _ _ hv (by rw[h0];rfl) o2 o3 o4 o5 o6 o7
   refine⟨st',hex x1,?_⟩
   rw[x2,w1,w2,h0];rfl
  ·obtain⟨w1,w2⟩:=ahe hy0 hxn h0
   have hv:=rC (-((x.natAbs % y.natAbs:Nat):Int))
   rw[decide_eq_false (by omega)] at hv
   have zx:∀ z:Int,z≤0→z.natAbs≤x.natAbs→Zm z:=by
    intro z hz0 hz
    have h1:(ztx x).length≤eQ:=hx
    unfold Zm
    rw[gr,hnx] at h1
    rw[gr]
    have h2:=oN hz
    cases bz z <;> simp at h1 ⊢ <;> omega
   have hq1:Zm (-((x.natAbs / y.natAbs:Nat):Int)):=zx _ (by omega) (by rw[Int.natAbs_neg,Int.natAbs_natCast];exact Nat.div_le_self _ _)
   have hr1:Zm (-((x.natAbs % y.natAbs:Nat):Int)):=zx _ (by omega) (by rw[Int.natAbs_neg,Int.natAbs_natCast];exact Nat.mod_le _ _)
   have p1:az LT6 (runK (CC LT6) K) 157 [zs (-((x.natAbs / y.natAbs:Nat):Int)),.sc (.string { data:=#[49] })] (zs (x / y)):=fun dr hp =>
    bt Hi abP _ dr hp [zs (-((x.natAbs / y.natAbs:Nat):Int)),zs 1] [zs (x / y)] rfl rfl (by
     have h2:(dT 1).blt eQ=true:=by decide
     have h3:fP (zs 1)=some 1:=cG 1 (by decide)
     simp only[xn,cG _ hq1,h3,h2,cond_true,w1])
   have p2:az LT6 (runK (CC LT6) K) 66 [zs (-((x.natAbs % y.natAbs:Nat):Int)),zs y] (zs (x % y)):=fun dr hp =>
    bt sK U6 _ dr hp _ [zs (x % y)] rfl rfl (by simp only[iR,cG _ hr1,cG _ hy,w2])
   obtain⟨st',x1,x2⟩:=Uh LT6 (runK (CC LT6) K) K a9 hp9 wr9 _ _ _ _ _ hv p1 p2 o2 o3 o4 o5 o6 o7
   exact⟨st',hex x1,x2⟩
 ·have hnx:bz x=false:=by rw[cL];simpa using hxn
  obtain⟨w1,w2⟩:=ahd hy0 (show 0≤x by omega)
  have eq1:gM (bz x != bz y) (x.natAbs / y.natAbs)=((x.natAbs / y.natAbs:Nat):Int):=by rw[hnx,hny,kP];rfl
  have er1:gM (bz x) (x.natAbs % y.natAbs)=((x.natAbs % y.natAbs:Nat):Int):=by rw[hnx,kP];rfl
  rw[eq1] at o6
  rw[er1] at o7
  rw[hnx] at o4
  have hv:=rC ((x.natAbs % y.natAbs:Nat):Int)
  obtain⟨st',x1,x2⟩:=xf LT6 (runK (CC LT6) K) K a9 hp9 wr9 _ false false _ _ _ hv (by simp) o2 o3 o4 o5 o6 o7
  refine⟨st',hex x1,?_⟩
  rw[x2,w1,w2];rfl
theorem Am:Ab.Spec base.P 121 ur:=Ab.Spec.bS (C:=CC LT6) (cR aic) fun args rs h=>by
 unfold ur at h
 split at h
 ·split at h
  ·rename_i x y ex ey
   obtain⟨rfl,hx⟩:=di ex
   obtain⟨rfl,hy⟩:=di ey
   by_cases hy0:0<y
   ·rw[decide_eq_true hy0] at h
    simp only[cond_true,OiE] at h
    subst h
    generalize hK:(T.aJ x.natAbs).length+20=K
    have gs1:=AZ (runK (CC LT6) K) x hx
    have gs2:=AZ (runK (CC LT6) K) y hy
    suffices hgo:∃ st,ae (CC LT6) (runK (CC LT6) K) K dC ⟨entry 164 [zs x,zs y],[],[]⟩=some (.ret,st)∧aX TT st.fr st.hp f121.results.toList=some [zs (x / y),zs (x % y)] by
     obtain⟨st,x1,x2⟩:=hgo
     exact⟨K+1,_,_,_,_,_,ba J6 rfl x1 x2,rfl,Wk.refl rfl,Wk.refl rfl,trivial⟩
    cases h1:(dT x).ble 9 with
    | false =>
     rw[h1] at gs1
     cases h2:(dT y).ble 9 with
     | false=>rw[h2] at gs2;exact s0 K x y hx hy hy0 (by omega) _ _ false false rfl gs1 gs2
     | true=>rw[h2] at gs2;exact s0 K x y hx hy hy0 (by omega) _ _ false true rfl gs1 gs2
    | true =>
     rw[h1] at gs1
     cases h2:(dT y).ble 9 with
     | false=>rw[h2] at gs2;exact s0 K x y hx hy hy0 (by omega) _ _ true false rfl gs1 gs2
     | true =>
      rw[h2] at gs2
      have b1:=zw h1
      have b2:=zw h2
      have c1:=Int.mul_tdiv_add_tmod x y
      have c2:=Int.tmod_lt_of_pos x hy0
      have c3:=Int.lt_tmod_of_pos x hy0
      have c4:=Int.natAbs_tdiv_le_natAbs x y
      generalize hq:x.tdiv y=q at *
      generalize hr:x.tmod y=r at *
      by_cases hr0:r<0
      ·obtain⟨w1,w2⟩:=l8 (x:=x) (y:=y) (q:=q - 1) (r:=r+y) hy0 (by rw[Int.mul_sub,Int.mul_one];omega) (by omega) (by omega)
       rw[w1,w2]
       exact abg LT6 (runK (CC LT6) K) K _ _ _ _ x y q r (q - 1) (r+y) gs1 gs2 (by omega) (by omega) (by rw[hq];exact fm _ (by omega) (by omega)) hr hr0 (fm _ (by omega) (by omega)) (fm _ (by omega) (by omega)) (vN _ _ (by omega) (by omega)) (vN _ _ (by omega) (by omega))
      ·obtain⟨w1,w2⟩:=l8 (x:=x) (y:=y) (q:=q) (r:=r) hy0 (by omega) (by omega) (by omega)
       rw[w1,w2]
       exact abh LT6 (runK (CC LT6) K) K _ _ _ _ x y q r gs1 gs2 (by omega) (by omega) (by rw[hq];exact fm _ (by omega) (by omega)) hr hr0 (vN _ _ (by omega) (by omega)) (vN _ _ (by omega) (by omega))
   ·rw[decide_eq_false hy0] at h
    cases h
  ·cases h
 ·cases h
def LT7:Lst:=[(155,ta),(121,ur)]
theorem aib:dE base.P LT7:=⟨HV,Am,trivial⟩
theorem LC:bx LT7 155=fun a=>ta (aK a):=rfl
theorem abN:bx LT7 121=fun a=>ur (aK a):=rfl
def ri:Code:=f112.body.getD .skip
def Av:Code:=((f112.body).bind aA).getD .skip
theorem Us(a b:ByteArray)(hv:fw .neq b { data:=#[48] } = some (.bool false))(h24:fr.length=24)(h5:nth fr 5 = .sc (.string a))(h6:nth fr 6 = .sc (.string b)) :
  ∃ fr',ae (CC L) run k Av ⟨fr,hp,wr⟩=some (.exit 0,⟨fr',hp,wr⟩)∧fr'.length=24∧nth fr' 5 = .sc (.string a):=by
 simp[Av,f112,aA,h24,h5,h6,hv]
theorem abk(a b q r:ByteArray)(hv:fw .neq b { data:=#[48] } = some (.bool true))(g:az L run 121 [.sc (.string a),.sc (.string b)] (.tup [.sc (.string q),.sc (.string r)]))(h24:fr.length=24)(h5:nth fr 5 = .sc (.string a))(h6:nth fr 6 = .sc (.string b)) :
  ∃ fr',ae (CC L) run k Av ⟨fr,hp,wr⟩=some (.normal,⟨fr',hp,wr⟩)∧fr'.length=24∧nth fr' 5 = .sc (.string b)∧nth fr' 6 = .sc (.string r):=by
 unfold az at g
 simp[Av,f112,aA,h24,h5,h6,hv,g]
theorem Zm.ajs {x y:Nat}(h:Zm (y:Int))(hl:x≤y):Zm (x:Int):=by
 unfold Zm at *
 rw[gr] at *
 have h1:bz (x:Int)=false:=rfl
 have h2:bz (y:Int)=false:=rfl
 rw[h1]
 rw[h2] at h
 have h3:=oN (x:=(x:Int)) (y:=(y:Int)) (by simpa using hl)
 simp only[cond_false] at h ⊢
 omega
theorem adm (run:aw)(x y:Nat)(hx:Zm (x:Int))(hy:Zm (y:Int))(h0:0<y):az LT7 run 121 [zs (x:Int),zs (y:Int)] (.tup [zs ((x:Int) / (y:Int)),zs ((x % y:Nat):Int)]):=fun dr hp =>
 bt Dt abN run dr hp _ [zs ((x:Int) / (y:Int)),zs ((x % y:Nat):Int)] rfl rfl (by
  have h1:(0:Int)<(y:Int):=by omega
  simp only[ur,cG _ hx,cG _ hy,decide_eq_true h1,cond_true]
  rfl)
theorem Au (run:aw)(k:Nat)(hp:Θ)(wr:Ω):∀ (n y x:Nat) (fr:Ψ),y<n→Zm (x:Int)→Zm (y:Int)→fr.length=24→nth fr 5=zs (x:Int)→nth fr 6=zs (y:Int) →
  ∃ fr',cb (ae (CC LT7) run k Av) n ⟨fr,hp,wr⟩=some (.exit 0,⟨fr',hp,wr⟩)∧fr'.length=24∧nth fr' 5=zs ((Nat.gcd x y:Nat):Int)
 | 0,y,x,fr,hn,_,_,_,_,_=>by omega
 | n+1,y,x,fr,hn,hx,hy,h24,h5,h6=>by
  have hv:=rC (y:Int)
  by_cases h0:y=0
  ·subst h0
   obtain⟨fr',g1,g2,g3⟩:=Us LT7 run k fr hp wr _ _ hv h24 h5 h6
   exact⟨fr',bu g1,g2,by rw[g3,Nat.gcd_zero_right];rfl⟩
  ·rw[decide_eq_false (by omega)] at hv
   obtain⟨fr1,g1,g2,g3,g4⟩:=abk LT7 run k fr hp wr _ _ _ _ hv (adm run x y hx hy (by omega)) h24 h5 h6
   have hm:=Nat.mod_lt x (show 0<y by omega)
   obtain⟨fr',q1,q2,q3⟩:=Au run k hp wr n (x % y) y fr1 (by omega) hy (hy.ajs (by omega)) g2 g3 g4
   refine⟨fr',by rw[bT g1];exact q1,q2,?_⟩
   rw[q3,Nat.gcd_comm y (x % y),← Nat.gcd_rec,Nat.gcd_comm]
theorem Ij:ai 2 ri = .seq (.block 0 (.loop Av)) (ai 3 ri):=rfl
theorem Ur (L:Lst)(run:aw)(k:Nat)(s t u v:ByteArray)(g1:az L run 155 [.sc (.string s)] (.sc (.string u)))(g2:az L run 155 [.sc (.string t)] (.sc (.string v))) :
  ∃ fr,bh (CC L) run k 2 ri ⟨entry 24 [.sc (.string s),.sc (.string t)],[],[]⟩=some ⟨fr,[],[]⟩∧fr.length=24∧nth fr 5 = .sc (.string u)∧nth fr 6 = .sc (.string v):=by
 obtain⟨e1,e2,e3⟩:=cl 22 (.sc (.string s)) (.sc (.string t))
 generalize entry 24 [.sc (.string s),.sc (.string t)]=fr0 at *
 unfold az at *
 simp[ri,f112,bh,e1,e2,e3,g1,g2]
theorem Oz(a:ByteArray)(h24:fr.length=24)(h5:nth fr 5 = .sc (.string a)) :
  ∃ st,ae (CC L) run k (ai 3 ri) ⟨fr,hp,wr⟩=some (.ret,st)∧aX TT st.fr st.hp f112.results.toList=some [.sc (.string a)]:=by
 simp[ri,f112,h24,h5,aX]
def uz:Ψ→Option Ψ
 | [p,q]=>match fP p,fP q with
  | some x,some y=>some [zs ((Nat.gcd x.natAbs y.natAbs:Nat):Int)]
  | _,_=>none
 | _=>none
theorem Zm.abs {x:Int}(h:Zm x):Zm (x.natAbs:Int):=by
 unfold Zm at *
 rw[gr] at *
 have h1:bz (x.natAbs:Int)=false:=rfl
 rw[h1]
 have h3:=oN (x:=(x.natAbs:Int)) (y:=x) (by simp)
 simp only[cond_false]
 omega
theorem Ar:Ab.Spec base.P 112 uz:=Ab.Spec.bS (C:=CC LT7) (cR aib) fun args rs h=>by
 unfold uz at h
 split at h
 ·split at h
  ·rename_i x y ex ey
   obtain⟨rfl,hx⟩:=di ex
   obtain⟨rfl,hy⟩:=di ey
   simp only[OiE] at h
   subst h
   generalize hK:y.natAbs+1=K
   have g1:az LT7 (runK (CC LT7) K) 155 [zs x] (zs (x.natAbs:Int)):=fun dr hp=>bt Du LC _ dr hp _ [zs (x.natAbs:Int)] rfl rfl (by simp only[ta,cG x hx];rfl)
   have g2:az LT7 (runK (CC LT7) K) 155 [zs y] (zs (y.natAbs:Int)):=fun dr hp=>bt Du LC _ dr hp _ [zs (y.natAbs:Int)] rfl rfl (by simp only[ta,cG y hy];rfl)
   obtain⟨f1,a1,a2,a3,a4⟩:=Ur LT7 (runK (CC LT7) K) K _ _ _ _ g1 g2
   obtain⟨f2,b1,b2,b3⟩:=Au (runK (CC LT7) K) K [] [] K y.natAbs x.natAbs f1 (by omega) (Zm.abs hx) (Zm.abs hy) a2 a3 a4
   obtain⟨st,x1,x2⟩:=Oz LT7 (runK (CC LT7) K) K f2 [] [] _ b2 b3
   have h1:ae (CC LT7) (runK (CC LT7) K) K ri ⟨entry 24 [zs x,zs y],[],[]⟩=ae (CC LT7) (runK (CC LT7) K) K (ai 2 ri) ⟨f1,[],[]⟩:=aY 2 a1
   have hx':ae (CC LT7) (runK (CC LT7) K) K ri ⟨entry 24 [zs x,zs y],[],[]⟩=some (.ret,st):=by
    rw[h1,Ij,ar (bE b1)]
    exact x1
   exact⟨K+1,_,_,_,_,_,ba J9 rfl hx' x2,rfl,Wk.refl rfl,trivial⟩
  ·cases h
 ·cases h
def spl (l:Ω):Ω × Ω × Bool:=match fN l with
 | some j=>(l.take j,l.drop (j+1),true)
 | none=>(l,[49],false)
theorem R5 {l:Ω}(h:Bok l):Bok (spl l).1∧Bok (spl l).2.1:=by
 unfold spl
 split
 ·exact⟨h.take _,h.drop _⟩
 ·exact⟨h,Bok.nil.cons (by omega)⟩
theorem vr (l:Ω):(spl l).1.length≤l.length∧(spl l).2.1.length≤l.length+1:=by
 unfold spl
 split
 ·simp;omega
 ·simp
theorem GZ (l:Ω)(h:Bok l)(h9:l.length<20000000):kS [.sc (.string (tx l))]=some [.sc (.string (tx (spl l).1)),.sc (.string (tx (spl l).2.1)),.sc (.bool (spl l).2.2)]:=by
 have hb:l.length.blt 20000000=true:=by rw[Nat.blt_eq];exact h9
 simp only[kS,jW h,hb,cond_true,spl]
 cases fN l <;> rfl
def LT8:Lst:=[(65,kS),(100,pc)]
theorem aia:dE base.P LT8:=⟨o0,uE,trivial⟩
theorem agi:bx LT8 65=fun a=>kS (aK a):=rfl
theorem U4:bx LT8 100=fun a=>pc (aK a):=rfl
theorem ahb(l:Ω)(h:Bok l)(h9:l.length<20000000):az LT8 run 65 [.sc (.string (tx l))] (.tup [.sc (.string (tx (spl l).1)),.sc (.string (tx (spl l).2.1)),.sc (.bool (spl l).2.2)]):=fun dr hp =>
 bt kn agi run dr hp _ [.sc (.string (tx (spl l).1)),.sc (.string (tx (spl l).2.1)),.sc (.bool (spl l).2.2)] rfl rfl (GZ l h h9)
theorem Fx (run:aw)(l:Ω)(h:Bok l)(h9:l.length<30000000):az LT8 run 100 [.sc (.string (tx l))] (.sc (.bool (decide (1000<eY l)))):=fun dr hp =>
 bt Nv U4 run dr hp _ [.sc (.bool (decide (1000<eY l)))] rfl rfl (by
  have hb:l.length.blt 100000000=true:=by rw[Nat.blt_eq];omega
  simp only[pc,jW h,hb,cond_true])
theorem DZ(s a b:ByteArray)(sl u v:Bool)(g1:az L run 65 [.sc (.string s)] (.tup [.sc (.string a),.sc (.string b),.sc (.bool sl)]))(g2:az L run 100 [.sc (.string a)] (.sc (.bool u)))(g3:az L run 100 [.sc (.string b)] (.sc (.bool v))) :
  ∃ st,ae (CC L) run k (f48.body.getD .skip) ⟨entry 18 [.sc (.string s)],[],[]⟩=some (.ret,st)∧aX TT st.fr st.hp f48.results.toList=some [.sc (.bool (u || v))]:=by
 obtain⟨e1,e2⟩:=cO 17 (.sc (.string s))
 generalize entry 18 [.sc (.string s)]=fr0 at *
 unfold az at *
 cases u <;> simp[f48,e1,e2,g1,g2,g3,undef,aX]
def AM (l:Ω):Bool:=decide (1000<eY (spl l).1) || decide (1000<eY (spl l).2.1)
def o9:Ψ→Option Ψ
 | [.sc (.string s)]=>bif (bys s).length.blt 20000000 then some [.sc (.bool (AM (bys s)))] else none
 | _=>none
theorem ub:Ab.Spec base.P 48 o9:=Ab.Spec.bS (C:=CC LT8) (cR aia) fun args rs h=>by
 unfold o9 at h
 split at h
 ·rename_i s
  cases hb:(bys s).length.blt 20000000 with
  | false=>rw[hb] at h;cases h
  | true =>
   rw[hb] at h
   simp only[cond_true,OiE] at h
   subst h
   rw[Nat.blt_eq] at hb
   have hok:=nf s
   obtain⟨h1,h2⟩:=R5 hok
   obtain⟨h3,h4⟩:=vr (bys s)
   obtain⟨st,x1,x2⟩:=DZ LT8 (runK (CC LT8) 1) 1 _ _ _ _ _ _ (ahb _ (bys s) hok hb) (Fx _ _ h1 (by omega)) (Fx _ _ h2 (by omega))
   rw[iC] at x1
   exact⟨2,_,_,_,_,_,ba Gv rfl x1 x2,rfl,Wk.refl rfl,trivial⟩
 ·cases h
theorem BF (n d:Int):spl (qtx n d)=(ztx n,ztx d, !decide (d=1)):=by
 unfold spl
 rw[PG]
 unfold qtx
 by_cases h:d=1
 ·subst h
  simp[ZJ]
 ·simp[h]
def qs (n d:Int):PV:=.sc (.string (tx (qtx n d)))
def LT9:Lst:=[(65,kS),(120,nW),(69,mI),(112,uz),(121,ur)]
theorem YY:dE base.P LT9:=⟨o0,xl,pX,Ar,Am,trivial⟩
theorem agh:bx LT9 65=fun a=>kS (aK a):=rfl
theorem abK:bx LT9 120=fun a=>nW (aK a):=rfl
theorem abM:bx LT9 69=fun a=>mI (aK a):=rfl
theorem abL:bx LT9 112=fun a=>uz (aK a):=rfl
theorem abJ:bx LT9 121=fun a=>ur (aK a):=rfl
theorem abn (n d:Int):(qtx n d).length≤(ztx n).length+(ztx d).length+1:=by
 unfold qtx
 split
 ·omega
 ·simp;omega
theorem G0 (n d:Int)(hn:Zm n)(hd:Zm d):kS [qs n d]=some [zs n,zs d,.sc (.bool (!decide (d=1)))]:=by
 have h1:(ztx n).length≤3000000:=hn
 have h2:(ztx d).length≤3000000:=hd
 have h3:=abn n d
 have:=GZ (qtx n d) (Iq n d) (by omega)
 rw[BF] at this
 exact this
theorem aha(n d:Int)(hn:Zm n)(hd:Zm d):az LT9 run 65 [qs n d] (.tup [zs n,zs d,.sc (.bool (!decide (d=1)))]):=fun dr hp =>
 bt kn agh run dr hp _ [zs n,zs d,.sc (.bool (!decide (d=1)))] rfl rfl (G0 n d hn hd)
theorem Co(n:Int)(hn:Zm n):az LT9 run 120 [zs n] (zs (-n)):=fun dr hp =>
 bt Dv abK run dr hp _ [zs (-n)] rfl rfl (by simp only[nW,cG n hn])
theorem QT (a b:Ω)(h:a.length+b.length<100000000):fw .add (tx a) (tx b)=some (.string (tx (a++b))):=by
 simp only[fw,dN]
 rw[if_neg (by omega)]
 simp[tx,fk]
theorem HH(n d m:Int)(hm9:(ztx m).length≤4000000)(hd9:(ztx d).length≤4000000)(g1:az L run 65 [qs n d] (.tup [zs n,zs d,.sc (.bool (!decide (d=1)))]))(g2:az L run 120 [zs n] (zs m)) :
  ∃ st,ae (CC L) run k (f122.body.getD .skip) ⟨entry 21 [qs n d],[],[]⟩=some (.ret,st)∧aX TT st.fr st.hp f122.results.toList=some [qs m d]:=by
 obtain⟨e1,e2⟩:=cO 20 (qs n d)
 generalize entry 21 [qs n d]=fr0 at *
 unfold az at *
 have h47:({ data:=#[47] } : ByteArray)=tx [47]:=rfl
 have b1:=QT (ztx m) [47] (by simp;omega)
 have b2:=QT (ztx m++[47]) (ztx d) (by simp;omega)
 by_cases h:d=1
 ·subst h
  have hq:qtx m 1=ztx m:=rfl
  simp only[decide_true,Bool.not_true,qs,zs,hq] at *
  simp[f122,e1,e2,unP,g1,g2,aX]
 ·have hq:qtx m d=(ztx m++[47])++ztx d:=by rw[qtx,if_neg h];simp
  rw[decide_eq_false h] at g1
  simp only[Bool.not_false,qs,zs,hq] at *
  simp[-append_assoc,f122,e1,e2,unP,g1,g2,h47,b1,b2,aX]
def kT:Code:=f67.body.getD .skip
theorem TE (L:Lst)(run:aw)(k:Nat)(a b:ByteArray)(c:Int)(hc : ¬ c<0)(g:az L run 69 [.sc (.string b),.sc (.string { data:=#[48] })] (Ab.bN c)) :
  ∃ fr,bh (CC L) run k 2 kT ⟨entry 37 [.sc (.string a),.sc (.string b)],[],[]⟩=some ⟨fr,[],[]⟩∧fr.length=37∧nth fr 0 = .sc (.string a)∧nth fr 1 = .sc (.string b):=by
 obtain⟨e1,e2,e3⟩:=cl 35 (.sc (.string a)) (.sc (.string b))
 generalize entry 37 [.sc (.string a),.sc (.string b)]=fr0 at *
 unfold az at *
 simp only[Ab.bN] at *
 simp[kT,f67,bh,e1,e2,e3,g,hc]
theorem TH (L:Lst)(run:aw)(k:Nat)(a b a' b':ByteArray)(c:Int)(hc:c<0)(g:az L run 69 [.sc (.string b),.sc (.string { data:=#[48] })] (Ab.bN c))(g1:az L run 120 [.sc (.string a)] (.sc (.string a')))(g2:az L run 120 [.sc (.string b)] (.sc (.string b'))) :
  ∃ fr,bh (CC L) run k 2 kT ⟨entry 37 [.sc (.string a),.sc (.string b)],[],[]⟩=some ⟨fr,[],[]⟩∧fr.length=37∧nth fr 0 = .sc (.string a')∧nth fr 1 = .sc (.string b'):=by
 obtain⟨e1,e2,e3⟩:=cl 35 (.sc (.string a)) (.sc (.string b))
 generalize entry 37 [.sc (.string a),.sc (.string b)]=fr0 at *
 unfold az at *
 simp only[Ab.bN] at *
 simp[kT,f67,bh,e1,e2,e3,g,hc,g1,g2]
theorem TG(a b g:ByteArray)(hv:fw .neq g { data:=#[49] } = some (.bool false))(g1:az L run 112 [.sc (.string a),.sc (.string b)] (.sc (.string g)))(h37:fr.length=37)(h0:nth fr 0 = .sc (.string a))(h1:nth fr 1 = .sc (.string b)) :
  ∃ fr',bh (CC L) run k 2 (ai 2 kT) ⟨fr,[],[]⟩=some ⟨fr',[],[]⟩∧fr'.length=37∧nth fr' 0 = .sc (.string a)∧nth fr' 1 = .sc (.string b):=by
 unfold az at *
 simp[kT,f67,bh,h37,h0,h1,g1,hv]
theorem N5(a b g a' b' x y:ByteArray)(hv:fw .neq g { data:=#[49] } = some (.bool true))(g1:az L run 112 [.sc (.string a),.sc (.string b)] (.sc (.string g)))(g2:az L run 121 [.sc (.string a),.sc (.string g)] (.tup [.sc (.string a'),.sc (.string x)]))(g3:az L run 121 [.sc (.string b),.sc (.string g)] (.tup [.sc (.string b'),.sc (.string y)]))
  (h37:fr.length=37) (h0:nth fr 0 = .sc (.string a)) (h1:nth fr 1 = .sc (.string b)) :
  ∃ fr',bh (CC L) run k 2 (ai 2 kT) ⟨fr,[],[]⟩=some ⟨fr',[],[]⟩∧fr'.length=37∧nth fr' 0 = .sc (.string a')∧nth fr' 1 = .sc (.string b'):=by
 unfold az at *
 simp[kT,f67,bh,h37,h0,h1,g1,g2,g3,hv]
theorem zK (z:Int):decide (bQ (tx (ztx z))=bQ (tx [49]))=decide (z=1):=by
 have:(bQ (tx (ztx z))=bQ (tx [49])) ↔ z=1:=by
  constructor
  ·intro h
   have h1:tx (ztx z)=tx [49]:=by rw[← gE (tx (ztx z)),h,gE]
   have h2:=(Db (lq z) (Bok.nil.cons (by omega))).1 h1
   have h3:=cG z (by rw[h2];decide)
   have h4:=cG 1 (by decide)
   have:zs z=zs 1:=by unfold zs;rw[h2];rfl
   rw[this,h4] at h3
   exact (Option.some.inj h3).symm
  ·intro h;subst h;rfl
 simp only[this]
theorem acr (z:Int):fw .neq (tx (ztx z)) { data:=#[49] } = some (.bool (!decide (z=1))):=by
 have e:({ data:=#[49] } : ByteArray)=tx [49]:=rfl
 rw[e]
 simp only[fw,vQ,zK]
theorem pq (z:Int):fw .eql (tx (ztx z)) { data:=#[49] } = some (.bool (decide (z=1))):=by
 have e:({ data:=#[49] } : ByteArray)=tx [49]:=rfl
 rw[e]
 simp only[fw,vQ,zK]
theorem Ae(n d:Int)(hn9:(ztx n).length≤4000000)(hd9:(ztx d).length≤4000000)(h37:fr.length=37)(h0:nth fr 0=zs n)(h1:nth fr 1=zs d) :
  ∃ st,ae (CC L) run k (ai 4 kT) ⟨fr,[],[]⟩=some (.ret,st)∧aX TT st.fr st.hp f67.results.toList=some [qs n d]:=by
 have h47:({ data:=#[47] } : ByteArray)=tx [47]:=rfl
 have b1:=QT (ztx n) [47] (by simp;omega)
 have b2:=QT (ztx n++[47]) (ztx d) (by simp;omega)
 have hv:=pq d
 by_cases h:d=1
 ·subst h
  have hq:qtx n 1=ztx n:=rfl
  simp only[decide_true,qs,zs,hq] at *
  simp[kT,f67,h37,h0,h1,hv,aX]
 ·have hq:qtx n d=(ztx n++[47])++ztx d:=by rw[qtx,if_neg h];simp
  rw[decide_eq_false h] at hv
  simp only[qs,zs,hq] at *
  simp[-append_assoc,kT,f67,h37,h0,h1,hv,h47,b1,b2,aX]
theorem adl(x y:Int)(hx:Zm x)(hy:Zm y):az LT9 run 69 [zs x,zs y] (Ab.bN (fI x y)):=fun dr hp =>
 bt Dy abM run dr hp _ [Ab.bN (fI x y)] rfl rfl (by simp only[mI,cG x hx,cG y hy])
theorem adk(x y:Int)(hx:Zm x)(hy:Zm y):az LT9 run 112 [zs x,zs y] (zs ((Nat.gcd x.natAbs y.natAbs:Nat):Int)):=fun dr hp =>
 bt Dw abL run dr hp _ [zs ((Nat.gcd x.natAbs y.natAbs:Nat):Int)] rfl rfl (by simp only[uz,cG x hx,cG y hy])
theorem Mh(x y:Int)(hx:Zm x)(hy:Zm y)(h0:0<y):az LT9 run 121 [zs x,zs y] (.tup [zs (x / y),zs (x % y)]):=fun dr hp =>
 bt Dt abJ run dr hp _ [zs (x / y),zs (x % y)] rfl rfl (by simp only[ur,cG x hx,cG y hy,decide_eq_true h0,cond_true])
theorem Ac(n d:Int)(hn:Zm n)(hd:Zm d)(hd0:0<d)(h37:fr.length=37)(h0:nth fr 0=zs n)(h1:nth fr 1=zs d) :
  ∃ st,ae (CC LT9) run k (ai 2 kT) ⟨fr,[],[]⟩=some (.ret,st)∧aX TT st.fr st.hp f67.results.toList=some [qs (n / (Nat.gcd n.natAbs d.natAbs:Nat)) (d / (Nat.gcd n.natAbs d.natAbs:Nat))]:=by
 have hgp:0<Nat.gcd n.natAbs d.natAbs:=Nat.gcd_pos_of_pos_right _ (by omega)
 have hgd:Nat.gcd n.natAbs d.natAbs≤d.natAbs:=Nat.gcd_le_right _ (by omega)
 have hg:=adk run n d hn hd
 have hgz:Zm ((Nat.gcd n.natAbs d.natAbs:Nat):Int):=Zm.ajs (Zm.abs hd) hgd
 have hv:=acr ((Nat.gcd n.natAbs d.natAbs:Nat):Int)
 generalize Nat.gcd n.natAbs d.natAbs=g at *
 have hn1:(ztx n).length≤3000000:=hn
 have hd1:(ztx d).length≤3000000:=hd
 by_cases h:(g:Int)=1
 ·rw[decide_eq_true h] at hv
  obtain⟨f1,a1,a2,a3,a4⟩:=TG LT9 run k fr _ _ _ hv hg h37 h0 h1
  obtain⟨st,x1,x2⟩:=Ae LT9 run k f1 n d (by omega) (by omega) a2 a3 a4
  refine⟨st,by rw[aY 2 a1];exact x1,?_⟩
  rw[x2,h,Int.ediv_one,Int.ediv_one]
 ·rw[decide_eq_false h] at hv
  have hg0:(0:Int)<(g:Int):=by omega
  have b:∀ z:Int,(ztx z).length≤3000000→(ztx (z / (g:Int))).length≤4000000:=by
   intro z hz
   rw[gr] at hz ⊢
   have:=oN (x:=z / (g:Int)) (y:=z) (by
    rcases Int.lt_or_le z 0 with h1 | h1
    ·have h2:z≤z / (g:Int):=by
      rw[Int.le_ediv_iff_mul_le hg0]
      have:(g:Int) ≥ 1:=by omega
      have:=Int.mul_le_mul_of_nonpos_left (a:=z) (b:=(g:Int)) (c:=1) (by omega) (by omega)
      omega
     have h3:z / (g:Int)≤0:=by
      rcases Int.lt_or_le 0 (z / (g:Int)) with h | h
      ·have:=(Int.le_ediv_iff_mul_le hg0).1 (show 1≤z / (g:Int) from h)
       omega
      ·exact h
     omega
    ·have h2:z / (g:Int)≤z:=Int.ediv_le_self _ h1
     have h3:0≤z / (g:Int):=Int.ediv_nonneg h1 (by omega)
     omega)
   cases bz (z / (g:Int)) <;> simp <;> omega
  obtain⟨f1,a1,a2,a3,a4⟩:=N5 LT9 run k fr _ _ _ _ _ _ _ hv hg (Mh run n g hn hgz hg0) (Mh run d g hd hgz hg0) h37 h0 h1
  obtain⟨st,x1,x2⟩:=Ae LT9 run k f1 (n / (g:Int)) (d / (g:Int)) (b n hn1) (b d hd1) a2 a3 a4
  exact⟨st,by rw[aY 2 a1];exact x1,x2⟩
end Go.Proofs.YtjdmodeenbdfpaaGreat
end
