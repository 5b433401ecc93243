/- Contracts of numbers kept as digits in text, part 33; each lemma states its conditions. -/
import Derived.Test.YtjdmodeenbdfpaaGreatU32
import Derived.Test.YtjdmodeenbdfpaaGreatU13
set_option linter.unusedSimpArgs false
set_option linter.unusedVariables false
noncomputable section
namespace Go.Proofs.YtjdmodeenbdfpaaGreat
open Go Go.Ab List Tryz
attribute [local simp] FzZ aC aF aG aH aa ab ae af ag ah ai aj an aq ar au aw az ba bg
variable(L:Lst)(run:av)(k:Nat)(fr:Ψ)(hp:Θ)(wr:Ω)
theorem sd:base.F.get 65=some f65:=by kernel_rfl
theorem Gd:base.F.get 48=some f48:=by kernel_rfl
theorem JL:base.F.get 122=some f122:=by kernel_rfl
theorem Cy:base.F.get 70=some f70:=by kernel_rfl
theorem uH:base.F.get 24=some f24:=by kernel_rfl
theorem Cx:base.F.get 34=some f34:=by kernel_rfl
theorem yG:base.F.get 26=some f26:=by kernel_rfl
theorem pe:base.F.get 64=some f64:=by kernel_rfl
theorem Cw:base.F.get 23=some f23:=by kernel_rfl
theorem yF:base.F.get 67=some f67:=by kernel_rfl
theorem jZ:base.shared 65=false:=by kernel_rfl
theorem MO:base.shared 48=false:=by kernel_rfl
theorem Rz:base.shared 122=false:=by kernel_rfl
theorem G5:base.shared 70=false:=by kernel_rfl
theorem MN:base.shared 24=false:=by kernel_rfl
theorem G4:base.shared 34=false:=by kernel_rfl
theorem RA:base.shared 26=false:=by kernel_rfl
theorem Y1:base.shared 64=false:=by kernel_rfl
theorem G0:base.shared 23=false:=by kernel_rfl
theorem Ry:base.shared 67=false:=by kernel_rfl
def LT5:Lst:=[(120,nC),(66,iy),(100,oM)]
theorem ag4:dt base.P LT5:=⟨xa,nB,um,trivial⟩
theorem aa5:bC LT5 120=fun a=>nC (aK a):=rfl
theorem Ut:bC LT5 66=fun a=>iy (aK a):=rfl
theorem Zm.neg {z:Int}(h:Zm z)(h2:Ab.ew z<fO):Zm (-z):=by
 unfold Zm
 rw[gV,CG]
 cases bw (-z) <;> simp <;> omega
theorem Ia(s t u r:ByteArray)(g1:aA L run 120 [.sc (.string t)] (.sc (.string u)))(g2:aA L run 66 [.sc (.string s),.sc (.string u)] (.sc (.string r))) :
  ∃ st,ae (CC L) run k (f157.body.getD .skip) ⟨entry 9 [.sc (.string s),.sc (.string t)],[],[]⟩=some (.ret,st)∧aY TT st.fr st.hp f157.results.toList=some [.sc (.string r)]:=by
 obtain⟨e1,e2,e3⟩:=cb 7 (.sc (.string s)) (.sc (.string t))
 generalize entry 9 [.sc (.string s),.sc (.string t)]=fr0 at *
 unfold aA at *
 simp[f157,e1,e2,e3,aM,g1,g2,aY]
def xb:Ψ→Option Ψ
 | [p,q]=>match fL p,fL q with
  | some x,some y=>bif (ew y).blt fO then some [zs (x - y)] else none
  | _,_=>none
 | _=>none
theorem H0:Ab.Spec base.P 157 xb:=Ab.Spec.bL (C:=CC LT5) (cP ag4) fun args rs h=>by
 unfold xb at h
 split at h
 ·split at h
  ·rename_i x y ex ey
   obtain⟨rfl,hx⟩:=dj ex
   obtain⟨rfl,hy⟩:=dj ey
   cases hb:(ew y).blt fO with
   | false=>rw[hb] at h;cases h
   | true =>
    rw[hb] at h
    simp only[cond_true,OiE] at h
    subst h
    rw[Nat.blt_eq] at hb
    have hn:=Zm.neg hy hb
    have g1:aA LT5 (runK (CC LT5) 1) 120 [zs y] (zs (-y)):=fun dr hp=>bq Dh aa5 _ dr hp _ [zs (-y)] rfl rfl (by simp only[nC,cJ y hy])
    have g2:aA LT5 (runK (CC LT5) 1) 66 [zs x,zs (-y)] (zs (x + -y)):=fun dr hp=>bq sy Ut _ dr hp _ [zs (x + -y)] rfl rfl (by simp only[iy,cJ x hx,cJ (-y) hn])
    obtain⟨st,x1,x2⟩:=Ia LT5 (runK (CC LT5) 1) 1 _ _ _ _ g1 g2
    exact⟨2,_,_,_,_,_,aZ CA rfl x1 x2,rfl,Wk.refl rfl,trivial⟩
  ·cases h
 ·cases h
theorem aji (a:Nat):((a:Int) == 47)=a.beq 47:=by
 cases h:a.beq 47 with
 | true=>rw[Nat.eq_of_beq_eq_true h];rfl
 | false =>
  rw[beq_eq_false_iff_ne]
  intro e
  have:a=47:=by omega
  subst this;cases h
theorem MA (l:Ω)(k:Nat)(hp:Θ)(h:k≤l.length):dH TT hp 27 (.sc (.string (tx l))) (some (.sc (.int .i64 (k:Int)))) none none=some (.sc (.string (tx (l.drop k)))):=by
 simp only[dH,uAR,dT,dM,bnd,fG,bm]
 simp[tx,fh,h]
 rw[take_of_length_le (by simp)]
theorem MB (l:Ω)(k:Nat)(hp:Θ)(h:k≤l.length):dH TT hp 27 (.sc (.string (tx l))) none (some (.sc (.int .i64 (k:Int)))) none=some (.sc (.string (tx (l.take k)))):=by
 simp only[dH,uAR,dT,dM,bnd,fG,bm]
 simp[tx,fh,h]
def qK:Code:=f65.body.getD .skip
def qM:Code:=((f65.body).bind az).getD .skip
theorem SP(l:Ω)(h24:fr.length=24)(h0:nth fr 0 = .sc (.string (tx l)))(h5:nth fr 5=iv l.length) :
  ∃ fr',ae (CC L) run k qM ⟨fr,[],[]⟩=some (.exit 0,⟨fr',[],[]⟩)∧fr'.length=24∧nth fr' 0 = .sc (.string (tx l)):=by
 simp only[iv] at h5
 simp[qM,f65,bM,bf,dM,h24,h0,h5,uAR]
set_option maxHeartbeats 1000000 in
theorem aae(l:Ω)(i:Nat)(hl:Bok l)(hi:i<l.length)(hi9:i<20000000)(hd:(at0 l i).beq 47=false)(h24:fr.length=24)(h0:nth fr 0 = .sc (.string (tx l)))(h5:nth fr 5=iv i) :
  ∃ fr',ae (CC L) run k qM ⟨fr,[],[]⟩=some (.normal,⟨fr',[],[]⟩)∧fr'.length=24∧nth fr' 0 = .sc (.string (tx l))∧nth fr' 5=iv (i+1):=by
 have hx:=eW uAR hl .i64 i hi
 have hb:=aji (at0 l i)
 rw[hd] at hb
 have hw:=bE i (by omega)
 generalize at0 l i=b at *
 simp only[iv] at h5 ⊢
 simp[qM,f65,bM,bf,dM,h24,h0,h5,uAR,hi,hx,hb,hw]
set_option maxHeartbeats 1000000 in
theorem SN(l:Ω)(i:Nat)(hl:Bok l)(hi:i<l.length)(hi9:i<20000000)(hd:(at0 l i).beq 47=true)(h24:fr.length=24)(h0:nth fr 0 = .sc (.string (tx l)))(h5:nth fr 5=iv i) :
  ∃ fr',ae (CC L) run k qM ⟨fr,[],[]⟩=some (.ret,⟨fr',[],[]⟩)∧nth fr' 2 = .sc (.string (tx (l.take i)))∧nth fr' 3 = .sc (.string (tx (l.drop (i+1))))∧nth fr' 4 = .sc (.bool true):=by
 have hx:=eW uAR hl .i64 i hi
 have hb:=aji (at0 l i)
 rw[hd] at hb
 have hw:=bE i (by omega)
 have h1:=MB l i [] (by omega)
 have h2:dH TT [] 27 (.sc (.string (tx l))) (some (.sc (.int .i64 ((i:Int)+1)))) none none=some (.sc (.string (tx (l.drop (i+1))))):=MA l (i+1) [] (by omega)
 generalize at0 l i=b at *
 simp only[iv] at h5
 simp[qM,f65,bM,bf,dM,h24,h0,h5,uAR,hi,hx,hb,hw,h1,h2,number,FP.free]
theorem zN (L:Lst)(run:av)(k:Nat)(l:Ω)(hl:Bok l)(h9:l.length<20000000):∀ (n i:Nat) (fr:Ψ),i+n=l.length→fr.length=24→nth fr 0 = .sc (.string (tx l))→nth fr 5=iv i →
  (fK (l.drop i)=none∧∃ fr',cg (ae (CC L) run k qM) (n+1) ⟨fr,[],[]⟩=some (.exit 0,⟨fr',[],[]⟩)∧fr'.length=24∧nth fr' 0 = .sc (.string (tx l))) ∨
  (∃ j fr',fK (l.drop i)=some j∧cg (ae (CC L) run k qM) (n+1) ⟨fr,[],[]⟩=some (.ret,⟨fr',[],[]⟩)∧nth fr' 2 = .sc (.string (tx (l.take (i+j))))∧nth fr' 3 = .sc (.string (tx (l.drop (i+j+1))))∧nth fr' 4 = .sc (.bool true))
 | 0,i,fr,hi,h24,h0,h5=>by
  have:i=l.length:=by omega
  subst this
  obtain⟨fr',g1,g2,g3⟩:=SP L run k fr l h24 h0 h5
  exact .inl ⟨by rw[drop_length];rfl,fr',br g1,g2,g3⟩
 | n+1,i,fr,hi,h24,h0,h5=>by
  have hil:i<l.length:=by omega
  have hdr:fK (l.drop i)=bif (at0 l i).beq 47 then some 0 else (fK (l.drop (i+1))).map (· + 1):=by rw[drop_eq_getElem_cons hil,de hil];rfl
  cases hd:(at0 l i).beq 47 with
  | true =>
   obtain⟨fr1,g1,g2,g3,g4⟩:=SN L run k fr l i hl hil (by omega) hd h24 h0 h5
   exact .inr ⟨0,fr1,by rw[hdr,hd];rfl,dD g1,g2,g3,g4⟩
  | false =>
   obtain⟨fr1,g1,g2,g3,g4⟩:=aae L run k fr l i hl hil (by omega) hd h24 h0 h5
   rw[hdr,hd,cond_false,bU g1]
   rcases zN L run k l hl h9 n (i+1) fr1 (by omega) g2 g3 g4 with ⟨q1,q2⟩| ⟨j,fr',q1,q2,q3,q4,q5⟩
   ·exact .inl ⟨by rw[q1];rfl,q2⟩
   ·refine .inr ⟨j+1,fr',by rw[q1];rfl,q2,?_,?_,q5⟩
    ·rw[q3,show i+1+j=i+(j+1) by omega]
    ·rw[q4,show i+1+j+1=i+(j+1)+1 by omega]
def SQ:Code:=seq1 (seq1 (ai 1 qK))
theorem wK:ai 1 qK = .seq (.seq SQ (.block 0 (.loop qM))) (ai 2 qK):=rfl
theorem SO (L:Lst)(run:av)(k:Nat)(s:ByteArray) :
  ∃ fr fr',bh (CC L) run k 1 qK ⟨entry 24 [.sc (.string s)],[],[]⟩=some ⟨fr,[],[]⟩∧ae (CC L) run k SQ ⟨fr,[],[]⟩=some (.normal,⟨fr',[],[]⟩)∧fr'.length=24∧nth fr' 0 = .sc (.string s)∧nth fr' 5=iv 0:=by
 obtain⟨e1,e2⟩:=cV 23 (.sc (.string s))
 generalize entry 24 [.sc (.string s)]=fr0 at *
 simp[SQ,qK,f65,seq1,bh,e1,e2,iv]
theorem Nx(s:ByteArray)(h24:fr.length=24)(h0:nth fr 0 = .sc (.string s)) :
  ∃ st,ae (CC L) run k (ai 2 qK) ⟨fr,[],[]⟩=some (.ret,st)∧aY TT st.fr st.hp f65.results.toList=some [.sc (.string s),.sc (.string (tx [49])),.sc (.bool false)]:=by
 have:(tx [49])={ data:=#[49] } := rfl
 rw[this]
 simp[qK,f65,h24,h0,aY]
def kx:Ψ→Option Ψ
 | [.sc (.string s)]=>bif (bys s).length.blt 20000000 then (match fK (bys s) with
  | some j=>some [.sc (.string (tx ((bys s).take j))),.sc (.string (tx ((bys s).drop (j+1)))),.sc (.bool true)]
  | none=>some [.sc (.string s),.sc (.string (tx [49])),.sc (.bool false)]) else none
 | _=>none
theorem oK:Ab.Spec base.P 65 kx:=Ab.Spec.bL (C:=CC []) (cP trivial) fun args rs h=>by
 unfold kx at h
 split at h
 ·rename_i s
  cases hb:(bys s).length.blt 20000000 with
  | false=>rw[hb] at h;cases h
  | true =>
   rw[hb] at h
   simp only[cond_true] at h
   rw[Nat.blt_eq] at hb
   have hok:=mK s
   obtain⟨f1,f2,a1,a2,a3,a4,a5⟩:=SO [] (runK (CC []) 20000000) 20000000 s
   have a4':nth f2 0 = .sc (.string (tx (bys s))):=by rw[a4,im]
   rcases zN [] (runK (CC []) 20000000) 20000000 (bys s) hok hb (bys s).length 0 f2 (by omega) a3 a4' a5 with ⟨q1,f3,q2,q3,q4⟩| ⟨j,f3,q1,q2,q3,q4,q5⟩
   ·rw[drop_zero] at q1
    rw[q1] at h
    simp only[OiE] at h
    subst h
    rw[im] at q4
    obtain⟨st,x1,x2⟩:=Nx [] (runK (CC []) 20000000) 20000000 f3 s q3 q4
    have hx:ae (CC []) (runK (CC []) 20000000) 20000000 qK ⟨entry 24 [.sc (.string s)],[],[]⟩=some (.ret,st):=by
     rw[aU 1 a1,wK,ao ((ao a2).trans (bD (bG q2 (by omega))))]
     exact x1
    exact⟨20000001,_,_,_,_,_,aZ sd rfl hx x2,rfl,Wk.refl rfl,Wk.refl rfl,Wk.refl rfl,trivial⟩
   ·rw[drop_zero] at q1
    rw[Nat.zero_add] at q3 q4
    rw[q1] at h
    simp only[OiE] at h
    subst h
    have hx:ae (CC []) (runK (CC []) 20000000) 20000000 qK ⟨entry 24 [.sc (.string s)],[],[]⟩=some (.ret,⟨f3,[],[]⟩):=by
     rw[aU 1 a1,wK]
     exact bK ((ao a2).trans (cL (bG q2 (by omega))))
    have x2:aY TT f3 [] f65.results.toList=some [.sc (.string (tx ((bys s).take j))),.sc (.string (tx ((bys s).drop (j+1)))),.sc (.bool true)]:=by
     simp[f65,aY,q3,q4,q5]
    exact⟨20000001,_,_,_,_,_,aZ sd rfl hx x2,rfl,Wk.refl rfl,Wk.refl rfl,Wk.refl rfl,trivial⟩
 ·cases h
def LT6:Lst:=[(156,iw),(118,kB),(119,nD),(115,uj),(116,mP),(113,uc),(114,uh),(66,iy),(157,xb)]
theorem ag3:dt base.P LT6:=⟨tU,ua,xd,Ah,sM,zZ,Ac,nB,H0,trivial⟩
theorem Ev:bC LT6 156=fun a=>iw (aK a):=rfl
theorem Ur:bC LT6 118=fun a=>kB (aK a):=rfl
theorem aa4:bC LT6 119=fun a=>nD (aK a):=rfl
theorem aa3:bC LT6 115=fun a=>uj (aK a):=rfl
theorem Ew:bC LT6 116=fun a=>mP (aK a):=rfl
theorem Oj:bC LT6 113=fun a=>uc (aK a):=rfl
theorem aa1:bC LT6 114=fun a=>uh (aK a):=rfl
theorem Us:bC LT6 66=fun a=>iy (aK a):=rfl
theorem aa2:bC LT6 157=fun a=>xb (aK a):=rfl
theorem xX(x y:Nat)(hx:(T.aJ x).length<10000000)(hy:(T.aJ y).length<10000000):aA LT6 run 118 [bA (T.aJ x),bA (T.aJ y)] (Ab.bJ (dR x y)):=fun dr hp =>
 bq zB Ur run dr hp _ [Ab.bJ (dR x y)] rfl (od _ _) (by simp only[kB,dQ (T.bV x) hx,dQ (T.bV y) hy,qO])
theorem acz (run:av)(x y:Nat)(hx:(T.aJ x).length<10000000)(hy:(T.aJ y).length<10000000)(h:y≤x):aA LT6 run 119 [bA (T.aJ x),bA (T.aJ y)] (bA (T.aJ (x - y))):=fun dr hp =>
 bq zD aa4 run dr hp _ [bA (T.aJ (x - y))] rfl (od _ _) (by
  have h1:(T.aJ y).length.ble (T.aJ x).length=true:=by rw[Nat.ble_eq];exact T.cw h
  have h2:y.ble x=true:=by rw[Nat.ble_eq];exact h
  simp only[nD,dQ (T.bV x) hx,dQ (T.bV y) hy,T.bX,h1,h2,Bool.and_self,cond_true])
def rZ (hp hp':Θ):Prop:=hp.length≤hp'.length∧∀ i,i<hp.length→aX hp' i=aX hp i
theorem rZ.refl:rZ hp hp:=⟨Nat.le_refl _,fun _ _=>rfl⟩
theorem rZ.trans {a b c:Θ}(h:rZ a b)(h':rZ b c):rZ a c:=⟨Nat.le_trans h.1 h'.1,fun i hi=>by rw[h'.2 i (by have:=h.1;omega),h.2 i hi]⟩
theorem dw.grow {α:Type}{e:α→PV}{b:Nat}{hp hp':Θ}{l:List α}{p:PV}(h:dw e b hp l p)(g:rZ hp hp'):dw e b hp' l p:=by
 obtain⟨hb,h⟩:=h
 refine⟨Nat.le_trans hb g.1,?_⟩
 rcases h with ⟨rfl,rfl⟩| ⟨id,m,h1,h2,rfl,h⟩
 ·exact .inl ⟨rfl,rfl⟩
 ·exact .inr ⟨id,m,h1,Nat.lt_of_lt_of_le h2 g.1,rfl,by rw[g.2 id h2];exact h⟩
theorem F4 (run:av)(dr:Bool)(hp:Θ)(c:Ω)(r:Ω)(hc:T.Dok c)(hr:T.Dok r)(hl:c.length+r.length<9000000) :
  ∃ p' hp' fp hp'' fp',cU hp 1 (.imm c.length true (c.map iv)) r.length (r.map iv)=some (p',hp',fp)∧bS (CC LT6) run dr hp' 156 [p']=some (bA (T.aJ (T.val (c++r))),hp'',fp')∧rZ hp hp'':=by
 have htr:iw [mE iv (c++r)]=some [bA (T.aJ (T.val (c++r)))]:=by
  have h1:=hc.append hr
  have h2:=dQ h1 (show (c++r).length<10000000 by simp;omega)
  simp only[bA] at h2
  simp only[iw,h2,T.eA h1]
 by_cases h0:r.length=0
 ·have hr0:r=[]:=length_eq_zero_iff.1 h0
  subst hr0
  rw[append_nil] at htr ⊢
  refine⟨.imm c.length true (c.map iv),hp,FzZ,?_⟩
  have h4:bu (snap hp bn) [.imm c.length true (c.map iv)]=some ([.imm c.length true (c.map iv)],[]):=rfl
  have h3:(CC LT6).orc 156 [.imm c.length true (c.map iv)]=some [bA (T.aJ (T.val c))]:=by
   show bC LT6 156 [.imm c.length true (c.map iv)]=_
   rw[Ev]
   simp only[aK,iX.ac9 _ true c rfl]
   exact htr
  exact⟨_,_,by simp[cU],eI lr h4 h3 rfl,rZ.refl hp⟩
 ·have hO:jR iv hp.length (bd hp (c.map iv++r.map iv)) (c++r) (.own hp.length 1 0 (c.length+r.length) false):=by
   refine⟨by simp[bd],.inr ⟨hp.length,[],false,Nat.le_refl _,by simp[bd],by simp,nofun,?_⟩⟩
   rw[bP,if_pos rfl,append_nil,map_append]
  obtain⟨hp'',fp',h1,h2,h3⟩:=tr lr Ev run dr iX hO _ htr
  have hlen:(bd hp (c.map iv++r.map iv)).length≤hp''.length:=Nat.le_of_eq h3.symm
  refine⟨.own hp.length 1 0 (c.length+r.length) false,bd hp (c.map iv++r.map iv),⟨[],[hp.length],true,false⟩,hp'',fp',?_,h1,?_,?_⟩
  ·simp only[cU,if_neg h0]
   rw[if_pos ⟨Nat.le_trans (Nat.le_of_lt hl) (by decide),by simp⟩]
  ·exact Nat.le_trans (by simp[bd]) hlen
  ·intro i hi
   rw[h2 i hi,bP,if_neg (by omega)]
def dC:Code:=f121.body.getD .skip
def iM:Code:=((f121.body).bind az).getD .skip
def Aa:Code:=(az iM).getD .skip
def uf:Code:=match aO iM with | .seq (.block _ c) _=>c | c=>c
def QF (fr:Ψ)(b:PV)(p s:Bool)(x y:Ω)(q i:PV):Prop :=
 fr.length=164∧nth fr 1=b∧nth fr 12 = .sc (.bool p)∧nth fr 13=bA x∧nth fr 14 = .sc (.bool s)∧nth fr 15=bA y∧nth fr 17=q∧nth fr 19=i
theorem z8(b:PV)(p s:Bool)(x y r:Ω)(q i n:PV)(z:Int)(hz:z<0)(hc:aA LT6 run 118 [bA r,bA y] (Ab.bJ z))(h:QF fr b p s x y q i)(h18:nth fr 18=bA r)(h20:nth fr 20=n) :
  ∃ fr',ae (CC LT6) run k Aa ⟨fr,hp,wr⟩=some (.exit 2,⟨fr',hp,wr⟩)∧QF fr' b p s x y q i∧nth fr' 18=bA r∧nth fr' 20=n:=by
 obtain⟨h0,h1,h12,h13,h14,h15,h17,h19⟩:=h
 unfold aA at hc
 simp only[Ab.bJ] at hc
 have hz2 : ¬ (0≤z):=by omega
 simp[QF,Aa,iM,f121,aM,and_assoc,h0,h1,h12,h13,h14,h15,h17,h18,h19,h20,hc,hz2]
theorem TA(b:PV)(p s:Bool)(x y r r':Ω)(q i:PV)(n:Nat)(z:Int)(hz:0≤z)(hn:n<1000000)(hc:aA LT6 run 118 [bA r,bA y] (Ab.bJ z))(hc2:aA LT6 run 119 [bA r,bA y] (bA r'))(h:QF fr b p s x y q i)(h18:nth fr 18=bA r)(h20:nth fr 20=iv n) :
  ∃ fr',ae (CC LT6) run k Aa ⟨fr,hp,wr⟩=some (.normal,⟨fr',hp,wr⟩)∧QF fr' b p s x y q i∧nth fr' 18=bA r'∧nth fr' 20=iv (n+1):=by
 obtain⟨h0,h1,h12,h13,h14,h15,h17,h19⟩:=h
 unfold aA at hc hc2
 simp only[Ab.bJ] at hc
 have hw:=bE n (by omega)
 simp only[iv] at h20 ⊢
 simp[QF,Aa,iM,f121,aM,and_assoc,h0,h1,h12,h13,h14,h15,h17,h18,h19,h20,hc,hc2,hz,hw]
theorem wZ (run:av)(k:Nat)(hp:Θ)(wr:Ω)(b:PV)(p s:Bool)(x:Ω)(q i:PV)(Y:Nat)(hY:0<Y)(hY9:(T.aJ Y).length<9000000):∀ (d n R:Nat) (fr:Ψ),R<(d+1)*Y→n+d<1000000→(T.aJ R).length<9000000→QF fr b p s x (T.aJ Y) q i→nth fr 18=bA (T.aJ R)→nth fr 20=iv n →
  ∃ fr',cg (ae (CC LT6) run k Aa) (d+1) ⟨fr,hp,wr⟩=some (.exit 2,⟨fr',hp,wr⟩)∧QF fr' b p s x (T.aJ Y) q i∧nth fr' 18=bA (T.aJ (R % Y))∧nth fr' 20=iv (n+R / Y)
 | 0,n,R,fr,hR,hn,hR9,h,h18,h20=>by
  have hlt:R<Y:=by omega
  obtain⟨fr',g1,g2,g3,g4⟩:=z8 run k fr hp wr b p s x (T.aJ Y) _ q i _ _ (by unfold dR;rw[if_pos hlt];omega) (xX run R Y (by omega) (by omega)) h h18 h20
  exact⟨fr',br g1,g2,by rw[g3,Nat.mod_eq_of_lt hlt],by rw[g4,Nat.div_eq_of_lt hlt,Nat.add_zero]⟩
 | d+1,n,R,fr,hR,hn,hR9,h,h18,h20=>by
  by_cases hlt:R<Y
  ·obtain⟨fr',g1,g2,g3,g4⟩:=z8 run k fr hp wr b p s x (T.aJ Y) _ q i _ _ (by unfold dR;rw[if_pos hlt];omega) (xX run R Y (by omega) (by omega)) h h18 h20
   exact⟨fr',br g1,g2,by rw[g3,Nat.mod_eq_of_lt hlt],by rw[g4,Nat.div_eq_of_lt hlt,Nat.add_zero]⟩
  ·have hge:Y≤R:=by omega
   have hz:0≤dR R Y:=by
    unfold dR
    rw[if_neg hlt]
    split <;> omega
   obtain⟨fr1,g1,g2,g3,g4⟩:=TA run k fr hp wr b p s x (T.aJ Y) _ _ q i n _ hz (by omega) (xX run R Y (by omega) (by omega)) (acz run R Y (by omega) (by omega) hge) h h18 h20
   have hl:(T.aJ (R - Y)).length<9000000:=Nat.lt_of_le_of_lt (T.cw (by omega)) hR9
   obtain⟨fr',q1,q2,q3,q4⟩:=wZ run k hp wr b p s x q i Y hY hY9 d (n+1) (R - Y) fr1 (by
    rw[Nat.add_mul (d+1) 1,Nat.one_mul] at hR
    omega) (by omega) hl g2 g3 g4
   refine⟨fr',by rw[bU g1];exact q1,q2,?_,?_⟩
   ·rw[q3,Nat.mod_eq_sub_mod hge]
   ·rw[q4,Nat.div_eq_sub_div hY hge]
    congr 1
    omega
theorem Ty:iM = .seq (seq1 iM) (.seq (.block 1 uf) (ai 2 iM)):=rfl
theorem NS:ai 2 uf = .seq (.block 2 (.loop Aa)) (ai 3 uf):=rfl
theorem NR(b:PV)(p s:Bool)(x y r:Ω)(q:PV)(h:QF fr b p s x y q (.sc (.int .i64 (-1))))(h18:nth fr 18=bA r) :
  ∃ fr',ae (CC L) run k iM ⟨fr,hp,wr⟩=some (.exit 0,⟨fr',hp,wr⟩)∧QF fr' b p s x y q (.sc (.int .i64 (-1)))∧nth fr' 18=bA r:=by
 obtain⟨h0,h1,h12,h13,h14,h15,h17,h19⟩:=h
 simp[QF,iM,f121,and_assoc,h0,h1,h12,h13,h14,h15,h17,h18,h19]
theorem Tz(b:PV)(p s:Bool)(x y r:Ω)(q:PV)(i:Nat)(h:QF fr b p s x y q (iv i))(h18:nth fr 18=bA r) :
  ∃ fr',ae (CC L) run k (seq1 iM) ⟨fr,hp,wr⟩=some (.normal,⟨fr',hp,wr⟩)∧QF fr' b p s x y q (iv i)∧nth fr' 18=bA r:=by
 obtain⟨h0,h1,h12,h13,h14,h15,h17,h19⟩:=h
 simp only[iv] at h19
 simp[QF,iM,f121,seq1,and_assoc,h0,h1,h12,h13,h14,h15,h17,h18,h19,iv]
set_option maxHeartbeats 1000000 in
theorem NT(b:PV)(p s:Bool)(x y r:Ω)(q:PV)(i:Nat)(hx:T.Dok x)(hr:T.Dok r)(hi:i<x.length)(hr9:r.length<8000000)(h:QF fr b p s x y q (iv i))(h18:nth fr 18=bA r) :
  ∃ fr' hp' wr',bh (CC LT6) run k 2 uf ⟨fr,hp,wr⟩=some ⟨fr',hp',wr'⟩∧QF fr' b p s x y q (iv i)∧nth fr' 18=bA (T.aJ (at0 x i+10*T.val r))∧nth fr' 20=iv 0∧rZ hp hp':=by
 obtain⟨h0,h1,h12,h13,h14,h15,h17,h19⟩:=h
 have hda:=fB x i hi
 have hd9:=T.cn hx i
 generalize at0 x i=d at *
 obtain⟨p',hp1,fp,hp2,fp',g1,g2,g3⟩:=F4 run false hp [d] r (T.Dok.nil.cons hd9) hr (by simp;omega)
 have e:T.val ([d]++r)=d+10*T.val r:=rfl
 rw[e] at g2
 have hlX:fP TT 24 1 [(0,.sc (.int .i64 (d:Int)))]=some (1,[iv d]):=kH d
 have hrd:eY hp 1 (bA r)=some (r.length,r.map iv,[]):=by simp[eY,bA,mE]
 have g1':cU hp 1 (.imm 1 true [iv d]) r.length (r.map iv)=some (p',hp1,fp):=g1
 have hok:=iX.Uk r
 have e1:bA x = .imm x.length false (x.map iv):=rfl
 rw[e1] at h13
 simp only[iv] at h19 ⊢
 simp[QF,e1,uf,iM,f121,aO,bh,aM,bc,bm,partOf,bf,and_assoc,h0,h1,h12,h13,h14,h15,h17,h18,h19,hi,hda,aV,uL,sI,aI,bI,zI,bZ,hlX,hrd,hok,iA,g1',g2,g3]
theorem HP(b:PV)(p s:Bool)(x y r out:Ω)(q i:PV)(n:Nat)(ho9:out.length<20000000)(h:QF fr b p s x y q i)(h18:nth fr 18=bA r)(h20:nth fr 20=iv n)(hO:dw iv 0 hp out q) :
  ∃ fr' hp' wr' q',ae (CC L) run k (ai 3 uf) ⟨fr,hp,wr⟩=some (.normal,⟨fr',hp',wr'⟩)∧QF fr' b p s x y q' i∧nth fr' 18=bA r∧dw iv 0 hp' (out++[n]) q':=by
 obtain⟨h0,h1,h12,h13,h14,h15,h17,h19⟩:=h
 obtain⟨q',hp',fp,g1,g2,-⟩:=hO.app n (by omega)
 have hlX:fP TT 24 1 [(0,.sc (.int .i64 (n:Int)))]=some (1,[iv n]):=kH n
 simp only[iv] at h20
 refine (fun ⟨fr',wr',h⟩=>⟨fr',hp',wr',q',h⟩:(∃ fr' wr',_)→_) ?_
 simp[QF,uf,iM,f121,aO,bf,and_assoc,bj,dP,h0,h1,h12,h13,h14,h15,h17,h18,h19,h20,uL,sI,bI,zI,bZ,hlX,lu,iA,g1,g2]
theorem Tx(b:PV)(p s:Bool)(x y r:Ω)(q:PV)(i:Nat)(hi:i<20000000)(h:QF fr b p s x y q (iv i))(h18:nth fr 18=bA r) :
  ∃ fr',ae (CC L) run k (ai 2 iM) ⟨fr,hp,wr⟩=some (.normal,⟨fr',hp,wr⟩)∧QF fr' b p s x y q (.sc (.int .i64 ((i:Int) - 1)))∧nth fr' 18=bA r:=by
 obtain⟨h0,h1,h12,h13,h14,h15,h17,h19⟩:=h
 have hw:=cM i (by omega)
 simp only[iv] at h19
 simp[QF,iM,f121,and_assoc,h0,h1,h12,h13,h14,h15,h17,h18,h19,hw]
theorem wY (run:av)(kk:Nat)(b:PV)(p s:Bool)(x:Ω)(Y:Nat)(hx:T.Dok x)(hx9:x.length<7000000)(hY:0<Y)(hY9:(T.aJ Y).length<7000000)(hkk:11≤kk) :
  ∀ (J R:Nat) (fr:Ψ) (hp:Θ) (wr:Ω) (out:Ω) (q:PV),J≤x.length→R<Y→out.length+J≤x.length→T.Dok out→T.val (x.drop J)=Y*T.val out.reverse+R→QF fr b p s x (T.aJ Y) q (.sc (.int .i64 ((J:Int) - 1)))→nth fr 18=bA (T.aJ R)→dw iv 0 hp out q →
  ∃ (fr':Ψ) (hp':Θ) (wr':Ω) (out':Ω) (q':PV),cg (ae (CC LT6) run kk iM) (J+1) ⟨fr,hp,wr⟩=some (.exit 0,⟨fr',hp',wr'⟩)∧QF fr' b p s x (T.aJ Y) q' (.sc (.int .i64 (-1)))∧nth fr' 18=bA (T.aJ (T.val x % Y))∧dw iv 0 hp' out' q'∧T.Dok out'∧T.val out'.reverse=T.val x / Y∧out'.length≤x.length
 | 0,R,fr,hp,wr,out,q,hJ,hR,hol,hod,hv,h,h18,hO=>by
  have h':QF fr b p s x (T.aJ Y) q (.sc (.int .i64 (-1))):=h
  obtain⟨fr',g1,g2,g3⟩:=NR LT6 run kk fr hp wr b p s x _ _ q h' h18
  rw[drop_zero] at hv
  have e1:T.val x % Y=R:=by rw[hv,Nat.mul_add_mod,Nat.mod_eq_of_lt hR]
  have e2:T.val x / Y=T.val out.reverse:=by rw[hv,Nat.mul_add_div hY,Nat.div_eq_of_lt hR,Nat.add_zero]
  exact⟨fr',hp,wr,out,q,br g1,g2,by rw[g3,e1],hO,hod,e2.symm,by omega⟩
 | i+1,R,fr,hp,wr,out,q,hJ,hR,hol,hod,hv,h,h18,hO=>by
  have hi:i<x.length:=by omega
  have h':QF fr b p s x (T.aJ Y) q (iv i):=by
   have e:PV.sc (.int .i64 (((i+1:Nat):Int) - 1))=iv i:=by simp[iv]
   rw[← e];exact h
  have hR9:=T.cw (Nat.le_of_lt hR)
  have hd9:=T.cn hx i
  obtain⟨f1,a1,a2,a3⟩:=Tz LT6 run kk fr hp wr b p s x _ _ q i h' h18
  obtain⟨f2,hp2,wr2,b1,b2,b3,b4,b5⟩:=NT run kk f1 hp wr b p s x _ _ q i hx (T.bV R) hi (by omega) a2 a3
  rw[T.bX] at b3
  have hlt:at0 x i+10*R<(9+1)*Y:=by omega
  have hl9:(T.aJ (at0 x i+10*R)).length<9000000:=by
   have h1:=T.cw (show at0 x i+10*R≤10*Y by omega)
   have h2:(T.aJ (10*Y)).length≤(T.aJ Y).length+1:=T.di (by
    rw[Nat.pow_succ,Nat.mul_comm]
    exact Nat.mul_lt_mul_of_pos_right (T.fA Y) (by omega))
   omega
  obtain⟨f3,c1,c2,c3,c4⟩:=wZ run kk hp2 wr2 b p s x q (iv i) Y hY (by omega) 9 0 _ f2 hlt (by omega) hl9 b2 b3 b4
  rw[Nat.zero_add] at c4
  obtain⟨f4,hp4,wr4,q4,d1,d2,d3,d4⟩:=HP LT6 run kk f3 hp2 wr2 b p s x _ _ out q (iv i) _ (by omega) c2 c3 c4 (dw.grow hO b5)
  obtain⟨f5,e1,e2,e3⟩:=Tx LT6 run kk f4 hp4 wr4 b p s x _ _ q4 i (by omega) d2 d3
  have hB:ae (CC LT6) run kk uf ⟨f1,hp,wr⟩=some (.normal,⟨f4,hp4,wr4⟩):=by
   rw[aU 2 b1,NS,ao (bD (bG c1 (by omega)))]
   exact d1
  have hO1:ae (CC LT6) run kk iM ⟨fr,hp,wr⟩=some (.normal,⟨f5,hp4,wr4⟩):=by
   rw[Ty,ao a1,ao (fC hB)]
   exact e1
  have hq9:(at0 x i+10*R) / Y<10:=Nat.div_lt_of_lt_mul (by omega)
  have hdm:=Nat.div_add_mod (at0 x i+10*R) Y
  obtain⟨fr',hp',wr',out',q',r1,r2⟩:=wY run kk b p s x Y hx hx9 hY hY9 hkk i ((at0 x i+10*R) % Y) f5 hp4 wr4 (out++[(at0 x i+10*R) / Y]) q4 (by omega) (Nat.mod_lt _ hY) (by simp;omega) (hod.append (T.Dok.nil.cons hq9)) (by
   rw[T.il x i hi,hv,reverse_append]
   show at0 x i+10*(Y*T.val out.reverse+R)=Y*((at0 x i+10*R) / Y+10*T.val out.reverse)+(at0 x i+10*R) % Y
   rw[Nat.mul_add Y,← Nat.mul_assoc Y 10,Nat.mul_comm Y 10,Nat.mul_assoc 10,Nat.mul_add 10]
   omega) e2 e3 d4
  exact⟨fr',hp',wr',out',q',by rw[bU hO1];exact r1,r2⟩
def qQ:Code:=(az (ai 10 dC)).getD .skip
def sP:Code:=match aO qQ with | .seq (.block _ c) _=>c | c=>c
theorem aaw:((Region.before (iE sP))[21]?.getD 0).testBit 15=true:=by kernel_rfl
theorem aav:((Region.before (iE sP))[21]?.getD 0).testBit 19=true:=by kernel_rfl
theorem aau:((Region.before (iE sP))[23]?.getD 0).testBit 15=true:=by kernel_rfl
theorem aat:((Region.before (iE sP))[23]?.getD 0).testBit 19=true:=by kernel_rfl
theorem aas:((Region.before (iE sP))[23]?.getD 0).testBit 21=true:=by kernel_rfl
def SF (fr:Ψ)(b:PV)(p s:Bool)(r:Ω)(q:PV):Prop :=
 fr.length=164∧nth fr 1=b∧nth fr 12 = .sc (.bool p)∧nth fr 14 = .sc (.bool s)∧nth fr 18=bA r∧nth fr 17=q
theorem z7(b:PV)(p s:Bool)(r:Ω)(q:PV)(n i:Nat)(hn9:n<20000000)(hq:dc q=some n)(hi:n / 2≤i)(h:SF fr b p s r q)(h21:nth fr 21=iv i) :
  ∃ fr',ae (CC L) run k qQ ⟨fr,hp,wr⟩=some (.exit 4,⟨fr',hp,wr⟩)∧SF fr' b p s r q:=by
 obtain⟨h0,h1,h12,h14,h18,h17⟩:=h
 obtain⟨m,hm⟩:∃ m,m=n / 2:=⟨_,rfl⟩
 rw[← hm] at hi
 have hd:((n:Int) / 2)=(m:Int):=by omega
 have hm9:m<20000000:=by rw[hm];exact Nat.lt_of_le_of_lt (Nat.div_le_self _ _) hn9
 clear hm
 have hw:=cp .i64 m (hiI (by omega))
 have hlt2 : ¬ (i<m):=by omega
 simp only[iv] at h21
 simp[SF,qQ,dC,f121,bM,bf,h0,h1,h12,h14,h18,h17,h21,uL,hq,hd,hw,hlt2]
set_option maxHeartbeats 8000000 in
theorem DV(b:PV)(p s:Bool)(r l z:Ω)(id n i j:Nat)(hn9:n<20000000)(hn:l.length=n)(hb:aX hp id=some ⟨.live,(l++z).map iv⟩)(hi:i<n / 2)(hj:n=i+j+1)(h:SF fr b p s r (.own id 1 0 n false))(h21:nth fr 21=iv i) :
  ∃ fr' wr',ae (CC L) run k qQ ⟨fr,hp,wr⟩=some (.normal,⟨fr',cF (cF hp id ⟨.live,((l++z).set i (at0 l j)).map iv⟩) id ⟨.live,(((l++z).set i (at0 l j)).set j (at0 l i)).map iv⟩,wr'⟩)∧SF fr' b p s r (.own id 1 0 n false)∧nth fr' 21=iv (i+1):=by
 obtain⟨h0,h1,h12,h14,h18,h17⟩:=h
 obtain⟨m,hm⟩:∃ m,m=n / 2:=⟨_,rfl⟩
 have hin:i<n:=by omega
 have hjn:j<n:=by omega
 have hij:i≠j:=by omega
 rw[← hm] at hi
 have hm9:m<20000000:=by rw[hm];exact Nat.lt_of_le_of_lt (Nat.div_le_self _ _) hn9
 have hw:=cp .i64 m (hiI (Nat.le_trans (Nat.le_of_lt hm9) (by decide)))
 have hw1:=cM n (Nat.lt_trans hn9 (by decide))
 have hw2:bB .i64 ((n:Int) - 1 - (i:Int))=(j:Int):=by rw[show ((n:Int) - 1 - (i:Int))=(j:Int) by omega];exact cp .i64 j (hiI (Nat.le_trans (Nat.le_of_lt (Nat.lt_trans hjn hn9)) (by decide)))
 have hwi:=bE i (Nat.lt_trans (Nat.lt_trans hin hn9) (by decide))
 have hd:((n:Int) / 2)=(m:Int):=by rw[hm];rfl
 clear hm
 have hil:i<(l++z).length:=by simp;omega
 have hjl:j<(l++z).length:=by simp;omega
 have ha:at0 (l++z) i=at0 l i:=by unfold at0;rw[getElem?_append_left (by omega)]
 have hb':at0 (l++z) j=at0 l j:=by unfold at0;rw[getElem?_append_left (by omega)]
 have hd1:=fB (l++z) i hil
 have hd2:=fB (l++z) j hjl
 rw[ha] at hd1
 rw[hb'] at hd2
 have hov:=nF (e:=iv) (l++z) i (at0 l j) hil
 have hov2:=nF (e:=iv) ((l++z).set i (at0 l j)) j (at0 l i) (by rw[length_set];exact hjl)
 have hsb:aX (cF hp id ⟨.live,((l++z).set i (at0 l j)).map iv⟩) id=some ⟨.live,((l++z).set i (at0 l j)).map iv⟩:=by rw[cN hb,if_pos rfl]
 generalize at0 l i=a at *
 generalize at0 l j=c at *
 generalize l++z=lz at *
 have hb1:=aaw
 have hb2:=aav
 have hb3:=aau
 have hb4:=aat
 have hb5:=aas
 simp[-Nat.testBit_zero,sP,qQ,dC,f121,aO,iE] at hb1 hb2 hb3 hb4 hb5
 simp only[iv] at h21 ⊢
 simp[-Nat.testBit_zero,-map_set,hb1,hb2,hb3,hb4,hb5,SF,qQ,dC,f121,bM,bc,bm,partOf,bf,and_assoc,jb,bj,rP,dP,h0,h1,h12,h14,h18,h17,h21,uL,sI,aI,aV,hb,hsb,hi,hin,hjn,hd,hw,hw1,hw2,hwi,hd1,hd2,hov,hov2,qE a,qE c,number,FP.free,cC,FP.apart]
theorem mM (l:Ω)(i y m:Nat)(h:i<l.length):at0 (l.set i y) m=if m=i then y else at0 l m:=by
 by_cases e:m=i
 ·subst e;rw[if_pos rfl,de (by simpa using h)];simp
 ·rw[if_neg e,gd (fun h=>e h.symm)]
theorem Cb {a b:Ω}(hl:a.length=b.length)(h:∀ m,m<a.length→at0 a m=at0 b m):a=b:=by
 refine ext_getElem hl fun m h1 h2 => ?_
 have:=h m h1
 rwa [de h1,de h2] at this
theorem LZ (l:Ω)(m:Nat)(h:m<l.length):at0 l.reverse m=at0 l (l.length - 1 - m):=by
 rw[de (by simpa using h),de (by omega),getElem_reverse]
theorem wX (L:Lst)(run:av)(k:Nat)(b:PV)(p s:Bool)(r l z:Ω)(id n:Nat)(hn9:n<20000000)(hn:l.length=n):∀ (d i:Nat) (fr:Ψ) (hp:Θ) (wr cur:Ω),i+d=n / 2→cur.length=n→id<hp.length→aX hp id=some ⟨.live,(cur++z).map iv⟩ →
  (∀ m,m<n→at0 cur m=if m<i∨n - i≤m then at0 l (n - 1 - m) else at0 l m)→SF fr b p s r (.own id 1 0 n false)→nth fr 21=iv i →
  ∃ (fr':Ψ) (hp':Θ) (wr':Ω),cg (ae (CC L) run k qQ) (d+1) ⟨fr,hp,wr⟩=some (.exit 4,⟨fr',hp',wr'⟩)∧SF fr' b p s r (.own id 1 0 n false)∧dw iv 0 hp' l.reverse (.own id 1 0 n false)
 | 0,i,fr,hp,wr,cur,hd,hc,hid,hb,hI,h,h21=>by
  obtain⟨fr',g1,g2⟩:=z7 L run k fr hp wr b p s r _ n i hn9 rfl (by omega) h h21
  have e:cur=l.reverse:=Cb (by simp[hc,hn]) fun m hm=>by
   rw[hc] at hm
   rw[hI m hm,LZ l m (by omega),hn]
   by_cases h1:m<i∨n - i≤m
   ·rw[if_pos h1]
   ·rw[if_neg h1]
    congr 1
    omega
  refine⟨fr',hp,wr,br g1,g2,Nat.zero_le _,.inr ⟨id,z,Nat.zero_le _,hid,by simp[hn],?_⟩⟩
  rw[← e];exact hb
 | d+1,i,fr,hp,wr,cur,hd,hc,hid,hb,hI,h,h21=>by
  obtain⟨j,hj⟩:∃ j,n=i+j+1:=⟨n - i - 1,by omega⟩
  have hij:i<j:=by omega
  obtain⟨fr1,wr1,g1,g2,g3⟩:=DV L run k fr hp wr b p s r cur z id n i j hn9 hc hb (by omega) hj h h21
  have e1:((cur++z).set i (at0 cur j)).set j (at0 cur i)=((cur.set i (at0 cur j)).set j (at0 cur i))++z:=by
   rw[set_append_left _ _ (by omega),set_append_left _ _ (by rw[length_set];omega)]
  rw[e1] at g1
  have hb1:aX (cF (cF hp id ⟨.live,((cur++z).set i (at0 cur j)).map iv⟩) id ⟨.live,(((cur.set i (at0 cur j)).set j (at0 cur i))++z).map iv⟩) id=some ⟨.live,(((cur.set i (at0 cur j)).set j (at0 cur i))++z).map iv⟩:=by
   rw[cN (b0:=⟨.live,((cur++z).set i (at0 cur j)).map iv⟩) (by rw[cN hb,if_pos rfl]),if_pos rfl]
  have hai:=hI i (by omega)
  have haj:=hI j (by omega)
  rw[if_neg (by omega)] at hai haj
  obtain⟨fr',hp',wr',q1,q2⟩:=wX L run k b p s r l z id n hn9 hn d (i+1) fr1 _ wr1 ((cur.set i (at0 cur j)).set j (at0 cur i)) (by omega) (by simp[hc]) (by rw[bQ,bQ];exact hid) hb1
   (fun m hm=>by
    rw[mM _ _ _ _ (by rw[length_set];omega),mM _ _ _ _ (by omega)]
    by_cases e2:m=j
    ·rw[if_pos e2,hai,if_pos (by omega)]
     congr 1
     omega
    ·rw[if_neg e2]
     by_cases e3:m=i
     ·rw[if_pos e3,haj,if_pos (by omega)]
      congr 1
      omega
     ·rw[if_neg e3,hI m hm]
      by_cases e4:m<i∨n - i≤m
      ·rw[if_pos e4,if_pos (by omega)]
      ·rw[if_neg e4,if_neg (by omega)]) g2 g3
  exact⟨fr',hp',wr',by rw[bU g1];exact q1,q2⟩
theorem NQ (L:Lst)(run:av)(k:Nat)(b:PV)(p s:Bool)(r l:Ω)(q:PV)(hn9:l.length<20000000)(fr:Ψ)(hp:Θ)(wr:Ω)(hO:dw iv 0 hp l q)(h:SF fr b p s r q)(h21:nth fr 21=iv 0) :
  ∃ (fr':Ψ) (hp':Θ) (wr':Ω),cg (ae (CC L) run k qQ) (l.length / 2+1) ⟨fr,hp,wr⟩=some (.exit 4,⟨fr',hp',wr'⟩)∧SF fr' b p s r q∧dw iv 0 hp' l.reverse q:=by
 obtain⟨hb,hO⟩:=hO
 rcases hO with ⟨rfl,rfl⟩| ⟨id,z,h1,h2,rfl,h3⟩
 ·obtain⟨fr',g1,g2⟩:=z7 L run k fr hp wr b p s r _ 0 0 (by omega) rfl (by omega) h h21
  exact⟨fr',hp,wr,br g1,g2,dw.nil hb⟩
 ·obtain⟨fr',hp',wr',g1,g2,g3⟩:=wX L run k b p s r l z id l.length hn9 rfl (l.length / 2) 0 fr hp wr l (by omega) rfl h2 h3 (fun m hm=>by rw[if_neg (by omega)]) h h21
  exact⟨fr',hp',wr',g1,g2,g3⟩
theorem Lx(z:Int)(h:Zm z):aA LT6 run 115 [zs z] (.tup [.sc (.bool (bw z)),bA (T.aJ z.natAbs)]):=fun dr hp =>
 bq tH aa3 run dr hp _ [.sc (.bool (bw z)),bA (T.aJ z.natAbs)] rfl rfl (Wv z h)
theorem AK(z:Int)(h:Zm z):aA LT6 run 113 [zs z] (.tup (bif (ew z).ble 9 then [Ab.bJ z,.sc (.bool true)] else [Ab.bJ 0,.sc (.bool false)])):=fun dr hp=>by
 have:=bq wk Oj run dr hp [zs z] _ rfl rfl (RW z h)
 rw[this]
 cases (ew z).ble 9 <;> rfl
theorem vF(z:Int)(h1 : -9223372036854775808≤z)(h2:z≤9223372036854775807):aA LT6 run 114 [.sc (.int .i64 z)] (zs z):=fun dr hp =>
 bq tJ aa1 run dr hp _ [zs z] rfl rfl (by simp only[uh,decide_eq_true h1,decide_eq_true h2,Bool.and_self,cond_true])
set_option maxHeartbeats 1000000 in
theorem Tu (L:Lst)(run:av)(k:Nat)(s t:ByteArray)(u v:Int)(f1 f2:Bool)(hf:(f1 && f2)=false)(g1:aA L run 113 [.sc (.string s)] (.tup [Ab.bJ u,.sc (.bool f1)]))(g2:aA L run 113 [.sc (.string t)] (.tup [Ab.bJ v,.sc (.bool f2)])) :
  ∃ fr,bh (CC L) run k 4 dC ⟨entry 164 [.sc (.string s),.sc (.string t)],[],[]⟩=some ⟨fr,[],[]⟩∧fr.length=164∧nth fr 0 = .sc (.string s)∧nth fr 1 = .sc (.string t):=by
 obtain⟨e1,e2,e3⟩:=cb 162 (.sc (.string s)) (.sc (.string t))
 generalize entry 164 [.sc (.string s),.sc (.string t)]=fr0 at *
 unfold aA at *
 simp only[Ab.bJ] at *
 cases f1 <;> cases f2 <;> simp only[Bool.and_true,Bool.and_false,Bool.and_self,Bool.true_eq_false] at hf <;> simp[dC,f121,bh,e1,e2,e3,aM,g1,g2,undef]
theorem Tv(s t:ByteArray)(m n:Bool)(a b:Ω)(g1:aA L run 115 [.sc (.string s)] (.tup [.sc (.bool m),bA a]))(g2:aA L run 115 [.sc (.string t)] (.tup [.sc (.bool n),bA b]))
  (h0':fr.length=164) (h0:nth fr 0 = .sc (.string s)) (h1:nth fr 1 = .sc (.string t)) :
  ∃ fr',bh (CC L) run k 2 (ai 4 dC) ⟨fr,[],[]⟩=some ⟨fr',[],[]⟩∧fr'.length=164∧nth fr' 1 = .sc (.string t)∧nth fr' 12 = .sc (.bool m)∧nth fr' 13=bA a∧nth fr' 14 = .sc (.bool n)∧nth fr' 15=bA b:=by
 unfold aA at *
 simp[dC,f121,bh,h0',h0,h1,aM,g1,g2]
set_option maxHeartbeats 1000000 in
theorem HO(b:PV)(m n:Bool)(x y:Ω)(t st:Nat)(hx9:x.length<7000000)(hy9:y.length<7000000)(ht:y.length=t+1)(hst:st=x.length - t)
  (h0':fr.length=164) (h1:nth fr 1=b) (h12:nth fr 12 = .sc (.bool m)) (h13:nth fr 13=bA x) (h14:nth fr 14 = .sc (.bool n)) (h15:nth fr 15=bA y) :
  ∃ fr',bh (CC L) run k 2 (ai 6 dC) ⟨fr,[],[]⟩=some ⟨fr',[],[]⟩∧fr'.length=164∧nth fr' 1=b∧nth fr' 12 = .sc (.bool m)∧nth fr' 13=bA x∧nth fr' 14 = .sc (.bool n)∧nth fr' 15=bA y∧nth fr' 16=iv st∧nth fr' 17 = .sc (.slice none 0 0):=by
 have hw1:bB .i64 ((y.length:Int) - 1)=(t:Int):=by rw[cM y.length (by omega)];omega
 have hmx:(if (0:Int)<(t:Int) then (t:Int) else 0)=(t:Int):=by split <;> omega
 have hmx1:mv true [.sc (.int .i64 0),.sc (.int .i64 (t:Int))]=some (.sc (.int .i64 (t:Int))):=by
  simp[mv]
  omega
 have hw2:bB .i64 ((x.length:Int) - (t:Int))=(x.length:Int) - (t:Int):=fi _ (by omega) (by omega)
 have hmx2:(if (0:Int)<(x.length:Int) - (t:Int) then (x.length:Int) - (t:Int) else 0)=(st:Int):=by split <;> omega
 have hmx3:mv true [.sc (.int .i64 0),.sc (.int .i64 ((x.length:Int) - (t:Int)))]=some (.sc (.int .i64 (st:Int))):=by
  simp[mv]
  split <;> omega
 simp only[iv]
 simp[dC,f121,bh,h0',h1,h12,h13,h14,h15,bM,bf,dN,uL,hw1,hmx1,hw2,hmx3]
end Go.Proofs.YtjdmodeenbdfpaaGreat
end
