/- Contracts of num's integers, part 28; each lemma states its conditions. -/
import Derived.Test.YtjdmodeenbdfpaaGreatU27
set_option linter.unusedSimpArgs false
set_option linter.unusedVariables false
noncomputable section
namespace Go.Proofs.YtjdmodeenbdfpaaGreat
open Go Go.Ab Tryz
attribute [local simp] FzZ aC aF aG aH aM aV aX aY aa ab ae af ag ah ai aj an aq ar au aw bF ba bf bg bp bz partOf sW seq1
variable(L:Lst)(run:av)(k:Nat)(fr:Ψ)(hp:Θ)(wr:Ω)
theorem X5:base.F.get 153=some f153:=by kernel_rfl
theorem P6:base.F.get 169=some f169:=by kernel_rfl
theorem Gp:base.F.get 183=some f183:=by kernel_rfl
theorem mO:base.F.get 108=some f108:=by kernel_rfl
theorem aez:base.shared 153=false:=by kernel_rfl
theorem ZG:base.shared 169=false:=by kernel_rfl
theorem M3:base.shared 183=false:=by kernel_rfl
theorem Bs:base.shared 191=false:=by kernel_rfl
abbrev gL:ByteArray:={ data:=#[47] }
theorem vY:bO gL=[47]:=rfl
def idx (s:ByteArray):Int:=bif eqL [47] (bO s) then 0 else Lib.indexByte (bO s) 47
theorem ER(s:ByteArray)(g1:aA L run 191 [.sc (.string s),.sc (.int .u8 47)] (.sc (.int .i64 (Lib.indexByte (bO s) 47)))) :
  ∃ st,ae (CC L) run k (f183.body.getD .skip) ⟨entry 143 [.sc (.string s),.sc (.string gL)],[],[]⟩=some (.ret,st)∧aY TT st.fr st.hp f183.results.toList=some [Ab.bJ (idx s)]:=by
 obtain⟨h1,h2,h3⟩:=cb 141 (.sc (.string s)) (.sc (.string gL))
 generalize entry 143 [.sc (.string s),.sc (.string gL)]=fr0 at *
 unfold aA at g1
 unfold idx
 have hix:ic TT 9 (.sc (.string gL)) (.sc (.int .i64 0))=some (.sc (.int .u8 47)):=by
  simp[ic,uS,jQ,vY,EB]
 have hst:=vY
 generalize gL=sl at *
 generalize Lib.indexByte (bO s) 47=i at *
 cases he:eqL [47] (bO s) with
 | true=>simp[f183,h1,h2,h3,bM,uS,hst,eo,he,Ab.bJ]
 | false=>simp[f183,h1,h2,h3,bM,uS,hst,eo,he,g1,hix,Ab.bJ]
def vu:Ψ→Option Ψ
 | [.sc (.string s),.sc (.string p)]=>bif eqL (bO p) [47] then some [Ab.bJ (idx s)] else none
 | _=>none
theorem tg:∀ {a b:List UInt8},eqL a b=true→a=b
 | [],[],_=>rfl
 | a::x,b::y,h=>by
  simp only[eqL,Bool.and_eq_true,beq_iff_eq] at h
  rw[tg h.2,UInt8.toNat_inj.1 h.1]
 | [],_::_,h=>by simp[eqL] at h
 | _::_,[],h=>by simp[eqL] at h
theorem we {p:ByteArray}(h:eqL (bO p) [47]=true):p=gL:=by
 have:=tg h
 rw[← gq p,this];rfl
def L12:Lst:=[(191,ibF)]
theorem g12(s:ByteArray):aA L12 run 191 [.sc (.string s),.sc (.int .u8 47)] (.sc (.int .i64 (Lib.indexByte (bO s) 47))):=fun dr hp =>
 bq (L:=L12) (f:=ibF) Bs rfl run dr hp _ [.sc (.int .i64 (Lib.indexByte (bO s) 47))] rfl rfl rfl
theorem EP:Ab.Spec base.P 183 vu:=Ab.Spec.bL (C:=CC L12) (cP ⟨acj,trivial⟩) fun args rs h=>by
 unfold vu at h
 split at h
 ·rename_i s p
  cases hb:eqL (bO p) [47] with
  | false=>rw[hb] at h;cases h
  | true =>
   rw[hb] at h
   simp only[cond_true,OiE] at h
   subst h
   rw[we hb]
   obtain⟨st,e1,e2⟩:=ER L12 (runK (CC L12) 1) 1 s (g12 _ s)
   exact⟨2,_,_,_,_,_,aZ Gp rfl e1 e2,eB _ _,Wk.refl rfl,trivial⟩
 ·cases h
def mY (s:ByteArray):Ψ:=match idx s with
 | .ofNat i=>[.sc (.string (mkStr ((bO s).take i))),.sc (.string (mkStr ((bO s).drop (i+1)))),.sc (.bool true)]
 | .negSucc _=>[.sc (.string s),.sc (.string { data:=#[] }),.sc (.bool false)]
def lN (s:ByteArray):Bool:=match idx s with
 | .ofNat i=>(i+1).ble (bO s).length && (bO s).length.ble 1000000000
 | .negSucc _=>true
def lF:Code:=f169.body.getD .skip
def IQ:Code:=seq1 (seq1 (ai 1 lF))
def tb:Code:=aO (seq1 (ai 1 lF))
theorem xK:ai 1 lF = .seq (.seq IQ tb) (ai 2 lF):=rfl
theorem Vz (L:Lst)(run:av)(k:Nat)(s sl:ByteArray):∃ fr,bh (CC L) run k 1 lF ⟨entry 23 [.sc (.string s),.sc (.string sl)],[],[]⟩=some ⟨fr,[],[]⟩∧fr.length=23∧nth fr 0 = .sc (.string s)∧nth fr 1 = .sc (.string sl):=by
 obtain⟨h1,h2,h3⟩:=cb 21 (.sc (.string s)) (.sc (.string sl))
 generalize entry 23 [.sc (.string s),.sc (.string sl)]=fr0 at *
 simp[lF,f169,bh,h1,h2,h3]
theorem ab1(s sl:ByteArray)(z:Int)(g1:aA L run 183 [.sc (.string s),.sc (.string sl)] (Ab.bJ z))(h1:fr.length=23)(h2:nth fr 0 = .sc (.string s))(h3:nth fr 1 = .sc (.string sl)) :
  ∃ fr',ae (CC L) run k IQ ⟨fr,[],[]⟩=some (.normal,⟨fr',[],[]⟩)∧fr'.length=23∧nth fr' 0 = .sc (.string s)∧nth fr' 1 = .sc (.string sl)∧nth fr' 7 = .sc (.int .i64 z):=by
 unfold aA at g1
 simp only[Ab.bJ] at g1
 simp[IQ,lF,f169,h1,h2,h3,g1]
theorem Vy(s sl a b:ByteArray)(z j:Int)(n:Nat)(hz : ¬ (z<0))(hj:bB .i64 (z+n)=j)(hn:(bO sl).length=n)(hs1:dT s none (some (.sc (.int .i64 z))) none=some (.sc (.string a)))(hs2:dT s (some (.sc (.int .i64 j))) none none=some (.sc (.string b)))
  (h1:fr.length=23) (h2:nth fr 0 = .sc (.string s)) (h3:nth fr 1 = .sc (.string sl)) (h7:nth fr 7 = .sc (.int .i64 z)) :
  ∃ st,ae (CC L) run k tb ⟨fr,[],[]⟩=some (.ret,st)∧aY TT st.fr st.hp f169.results.toList=some [.sc (.string a),.sc (.string b),.sc (.bool true)]:=by
 have hz':0≤z:=by omega
 simp[tb,lF,f169,aO,h1,h2,h3,h7,bM,uS,hz',hn,hj,dH,hs1,hs2,number,FP.free]
theorem Vx(s sl:ByteArray)(z:Int)(hz:z<0)(h1:fr.length=23)(h2:nth fr 0 = .sc (.string s))(h3:nth fr 1 = .sc (.string sl))(h7:nth fr 7 = .sc (.int .i64 z)) :
  ∃ st fr',ae (CC L) run k tb ⟨fr,[],[]⟩=some (.normal,⟨fr',[],[]⟩)∧ae (CC L) run k (ai 2 lF) ⟨fr',[],[]⟩=some (.ret,st)∧aY TT st.fr st.hp f169.results.toList=some [.sc (.string s),.sc (.string { data:=#[] }),.sc (.bool false)]:=by
 have hz' : ¬ (0≤z):=by omega
 have e:∃ fr',ae (CC L) run k tb ⟨fr,[],[]⟩=some (.normal,⟨fr',[],[]⟩)∧fr'.length=23∧nth fr' 0 = .sc (.string s):=by
  simp[tb,lF,f169,aO,h1,h2,h7,hz']
 obtain⟨fr',e1,e2,e3⟩:=e
 have e':∃ st,ae (CC L) run k (ai 2 lF) ⟨fr',[],[]⟩=some (.ret,st)∧aY TT st.fr st.hp f169.results.toList=some [.sc (.string s),.sc (.string { data:=#[] }),.sc (.bool false)]:=by
  simp[lF,f169,e2,e3]
 obtain⟨st,e4,e5⟩:=e'
 exact⟨st,fr',e1,e4,e5⟩
theorem IU(s:ByteArray)(hk:lN s=true)(g1:aA L run 183 [.sc (.string s),.sc (.string gL)] (Ab.bJ (idx s))) :
  ∃ st,ae (CC L) run k lF ⟨entry 23 [.sc (.string s),.sc (.string gL)],[],[]⟩=some (.ret,st)∧aY TT st.fr st.hp f169.results.toList=some (mY s):=by
 obtain⟨f1,a1,a2,a3,a4⟩:=Vz L run k s gL
 obtain⟨f2,b1,b2,b3,b4,b5⟩:=ab1 L run k f1 s gL (idx s) g1 a2 a3 a4
 unfold mY
 unfold lN at hk
 cases hi:idx s with
 | ofNat i =>
  rw[hi] at b5 hk
  simp only[Bool.and_eq_true,Nat.ble_eq] at hk
  have hw:=bE i (Nat.lt_of_lt_of_le hk.1 (Nat.le_trans hk.2 (by decide)))
  have hs1:dT s none (some (.sc (.int .i64 (Int.ofNat i)))) none=some (.sc (.string (mkStr ((bO s).take i)))):=by
   have:i≤(bO s).length:=Nat.le_of_succ_le hk.1
   simp[dT,bnd,fG,bm,this]
  have hs2:dT s (some (.sc (.int .i64 ((i:Int)+1)))) none none=some (.sc (.string (mkStr ((bO s).drop (i+1))))):=by
   have:i+1≤(bO s).length:=hk.1
   simp[dT,bnd,fG,je,this]
  obtain⟨st,c1,c2⟩:=Vy L run k f2 s gL _ _ (Int.ofNat i) _ 1 (by simp) hw rfl hs1 hs2 b2 b3 b4 b5
  exact⟨st,by rw[aU 1 a1,xK,bK ((ao b1).trans c1)],c2⟩
 | negSucc i =>
  rw[hi] at b5
  obtain⟨st,f3,c1,c2,c3⟩:=Vx L run k f2 s gL (Int.negSucc i) (by simp) b2 b3 b4 b5
  exact⟨st,by rw[aU 1 a1,xK,ao ((ao b1).trans c1)];exact c2,c3⟩
def rM:Ψ→Option Ψ
 | [.sc (.string s),.sc (.string p)]=>bif eqL (bO p) [47] && lN s then some (mY s) else none
 | _=>none
theorem En(s:ByteArray):bu (snap hp bn) (mY s)=some (mY s,[]):=by
 unfold mY;cases idx s <;> rfl
theorem Kw (s:ByteArray):WkL (mY s) (mY s):=WkL.refl (by unfold mY;cases idx s <;> rfl)
def L13:Lst:=[(183,vu)]
theorem g13(s:ByteArray):aA L13 run 183 [.sc (.string s),.sc (.string gL)] (Ab.bJ (idx s)):=fun dr hp =>
 bq (L:=L13) (f:=vu) M3 rfl run dr hp _ [Ab.bJ (idx s)] rfl rfl rfl
theorem IT:Ab.Spec base.P 169 rM:=Ab.Spec.bL (C:=CC L13) (cP ⟨EP,trivial⟩) fun args rs h=>by
 unfold rM at h
 split at h
 ·rename_i s p
  cases hb:eqL (bO p) [47] && lN s with
  | false=>rw[hb] at h;cases h
  | true =>
   rw[hb] at h
   simp only[cond_true,OiE] at h
   subst h
   rw[Bool.and_eq_true] at hb
   rw[we hb.1]
   obtain⟨st,e1,e2⟩:=IU L13 (runK (CC L13) 1) 1 s hb.2 (g13 _ s)
   exact⟨2,_,_,_,_,_,aZ P6 rfl e1 e2,En _ _,Kw _⟩
 ·cases h
def L14:Lst:=[(169,rM)]
theorem g14(s:ByteArray)(hk:lN s=true):aA L14 run 169 [.sc (.string s),.sc (.string gL)] (iL (mY s)):=fun dr hp =>
 bq (L:=L14) (f:=rM) ZG rfl run dr hp _ (mY s) rfl rfl (by
  show (bif true && lN s then some (mY s) else none)=_
  rw[hk];rfl)
theorem Pf(s:ByteArray)(g1:aA L run 169 [.sc (.string s),.sc (.string gL)] (iL (mY s))) :
  ∃ st,ae (CC L) run k (f153.body.getD .skip) ⟨entry 13 [.sc (.string s),.sc (.string gL)],[],[]⟩=some (.ret,st)∧aY TT st.fr st.hp f153.results.toList=some (mY s):=by
 obtain⟨h1,h2,h3⟩:=cb 11 (.sc (.string s)) (.sc (.string gL))
 generalize entry 13 [.sc (.string s),.sc (.string gL)]=fr0 at *
 unfold aA at g1
 unfold mY at g1 ⊢
 cases hi:idx s <;> rw[hi] at g1 <;> simp only[iL] at g1 ⊢ <;> simp[f153,h1,h2,h3,g1]
theorem Pe:Ab.Spec base.P 153 rM:=Ab.Spec.bL (C:=CC L14) (cP ⟨IT,trivial⟩) fun args rs h=>by
 unfold rM at h
 split at h
 ·rename_i s p
  cases hb:eqL (bO p) [47] && lN s with
  | false=>rw[hb] at h;cases h
  | true =>
   rw[hb] at h
   simp only[cond_true,OiE] at h
   subst h
   rw[Bool.and_eq_true] at hb
   rw[we hb.1]
   obtain⟨st,e1,e2⟩:=Pf L14 (runK (CC L14) 1) 1 s (g14 _ s hb.2)
   exact⟨2,_,_,_,_,_,aZ X5 rfl e1 e2,En _ _,Kw _⟩
 ·cases h
def rrC:Code:=f108.body.getD .skip
def Nf:Code:=seq1 (ai 3 rrC)
def Dy:Code:=seq1 (ai 5 rrC)
theorem zH:ai 3 rrC = .seq Nf (ai 4 rrC):=rfl
theorem zG:ai 5 rrC = .seq Dy (ai 6 rrC):=rfl
theorem aeK (L:Lst)(run:av)(k:Nat)(s s1 t1:ByteArray)(sl ok:Bool)(n:Int)(g1:aA L run 153 [.sc (.string s),.sc (.string gL)] (.tup [.sc (.string s1),.sc (.string t1),.sc (.bool sl)]))(g2:aA L run 154 [.sc (.string s1)] (.tup [bt n,.sc (.bool ok)])) :
  ∃ fr wr,bh (CC L) run k 3 rrC ⟨entry 61 [.sc (.string s)],[],[]⟩=some ⟨fr,[zR4,bW n],wr⟩∧fr.length=61∧nth fr 2 = .ptr 0 0∧nth fr 5 = .sc (.string t1)∧nth fr 6 = .sc (.bool sl)∧nth fr 7 = .ptr 1 0∧nth fr 8 = .sc (.bool ok):=by
 obtain⟨h1,h2⟩:=cV 60 (.sc (.string s))
 generalize entry 61 [.sc (.string s)]=fr0 at *
 unfold aA at g1 g2
 simp only[whW,bW] at g2 ⊢
 generalize aJ n.natAbs=rn at *
 generalize bw n=nn at *
 simp[rrC,f108,bh,h1,h2,and_assoc,cf,bH,bj,g1,g2,zR,zW,bd,cF,b9]
theorem aeJ(sl ok:Bool)(n:Int)(hb:ok=false∨sl=false)(g1:aA L run 97 [.sc (.int .i64 1)] (bt 1))
  (h1:fr.length=61) (h2:nth fr 2 = .ptr 0 0) (h6:nth fr 6 = .sc (.bool sl)) (h7:nth fr 7 = .ptr 1 0) (h8:nth fr 8 = .sc (.bool ok)) :
  ∃ st,ae (CC L) run k Nf ⟨fr,[zR4,bW n],wr⟩=some (.ret,st)∧aY TT st.fr st.hp f108.results.toList=some [ch n 1,.sc (.bool ok)]:=by
 unfold aA at g1
 rw[gr]
 simp only[whW,bW] at g1 ⊢
 generalize aJ n.natAbs=rn at *
 generalize bw n=nn at *
 generalize aJ (1:Int).natAbs=r1 at *
 generalize bw 1=n1 at *
 rcases hb with rfl | rfl
 ·simp[Nf,rrC,f108,h1,h2,h7,h8,unP,cf,bH,bj,undef,g1,uR,sR,aR,aW,zR,rf0,rf1,fb,dJ,j6,cF,b9,number,FP.free,cC,FP.apart]
 ·cases ok <;> simp[Nf,rrC,f108,h1,h2,h6,h7,h8,unP,cf,bH,bj,undef,g1,uR,sR,aR,aW,zR,rf0,rf1,fb,dJ,j6,cF,b9,number,FP.free,cC,FP.apart]
theorem aeI(n:Int)(h1:fr.length=61)(h2:nth fr 2 = .ptr 0 0)(h6:nth fr 6 = .sc (.bool true))(h7:nth fr 7 = .ptr 1 0)(h8:nth fr 8 = .sc (.bool true)) :
  ∃ fr',ae (CC L) run k Nf ⟨fr,[zR4,bW n],wr⟩=some (.normal,⟨fr',[zR4,bW n],wr⟩)∧fr'.length=61∧nth fr' 2 = .ptr 0 0∧nth fr' 5=nth fr 5∧nth fr' 7 = .ptr 1 0:=by
 simp[Nf,rrC,f108,h1,h2,h6,h7,h8,unP]
theorem ahZ(t1:ByteArray)(ok:Bool)(n d:Int)(g1:aA L run 154 [.sc (.string t1)] (.tup [bt d,.sc (.bool ok)]))(h1:fr.length=61)(h2:nth fr 2 = .ptr 0 0)(h5:nth fr 5 = .sc (.string t1))(h7:nth fr 7 = .ptr 1 0) :
  ∃ fr' wr',bh (CC L) run k 1 (ai 4 rrC) ⟨fr,[zR4,bW n],wr⟩=some ⟨fr',[zR4,bW n,bW d],wr'⟩∧fr'.length=61∧nth fr' 2 = .ptr 0 0∧nth fr' 7 = .ptr 1 0∧nth fr' 9 = .ptr 2 0∧nth fr' 8 = .sc (.bool ok):=by
 unfold aA at g1
 simp only[whW,bW] at g1 ⊢
 generalize aJ n.natAbs=rn at *
 generalize bw n=nn at *
 generalize aJ d.natAbs=rd at *
 generalize bw d=nd at *
 simp[rrC,f108,bh,h1,h2,h5,h7,and_assoc,cf,bH,bj,g1,zW,bd,cF,b9]
def wz (ok:Bool)(s c1 c2:Int):Bool := !ok || (s == 0 || (decide (c1≤0) || c2 != 0))
set_option maxHeartbeats 4000000 in
theorem ahY(ok:Bool)(n d g:Int)(s c1 c2:Int)(g1:ok=true→aA L run 101 [bt n] (Ab.bJ s))(g0:aA L run 97 [.sc (.int .i64 1)] (bt 1))(g2:ok=true→s≠0→aA L run 96 [bt d,bt 1] (Ab.bJ c1))
  (g3:ok=true→s≠0 → ¬ (c1≤0)→aA L run 150 [bt n,bt d] (bt g)) (g4:ok=true→s≠0 → ¬ (c1≤0)→aA L run 96 [bt g,bt 1] (Ab.bJ c2))
  (h1:fr.length=61) (h2:nth fr 2 = .ptr 0 0) (h7:nth fr 7 = .ptr 1 0) (h9:nth fr 9 = .ptr 2 0) (h8:nth fr 8 = .sc (.bool ok)) :
  (wz ok s c1 c2=true∧∃ st,ae (CC L) run k Dy ⟨fr,[zR4,bW n,bW d],wr⟩=some (.ret,st)∧aY TT st.fr st.hp f108.results.toList=some [.agg [.sc (.bool false),.sc (.slice none 0 0),.sc (.bool false),.sc (.slice none 0 0)],.sc (.bool false)]) ∨
  (wz ok s c1 c2=false∧∃ fr',ae (CC L) run k Dy ⟨fr,[zR4,bW n,bW d],wr⟩=some (.normal,⟨fr',[zR4,bW n,bW d],wr⟩)∧fr'.length=61∧nth fr' 2 = .ptr 0 0∧nth fr' 7 = .ptr 1 0∧nth fr' 9 = .ptr 2 0):=by
 unfold wz
 unfold aA at *
 simp only[whW,bW,Ab.bJ] at *
 generalize aJ n.natAbs=rn at *
 generalize bw n=nn at *
 generalize aJ d.natAbs=rd at *
 generalize bw d=nd at *
 generalize aJ g.natAbs=rg at *
 generalize bw g=ng at *
 generalize aJ (1:Int).natAbs=r1 at *
 generalize bw 1=n1 at *
 cases ok with
 | false =>
  refine .inl ⟨rfl,?_⟩
  simp[Dy,rrC,f108,h1,h2,h8,unP,bH,fy,bj,undef,uR,sR,aR,zR,rf0,rf1,fb,dJ,cF,b9,number,FP.free]
 | true =>
  have g1:=g1 rfl
  by_cases hs:s=0
  ·refine .inl ⟨by simp[hs],?_⟩
   have hs':(s == 0)=true:=by simpa using hs
   simp[Dy,rrC,f108,h1,h2,h7,h8,g1,hs',unP,bH,fy,bj,undef,uR,sR,aR,aW,zR,rf0,rf1,fb,dJ,cF,b9,number,FP.free]
  ·have g2:=g2 rfl hs
   have hs':(s == 0)=false:=by simpa using hs
   by_cases hc:c1≤0
   ·refine .inl ⟨by simp[hc],?_⟩
    simp[Dy,rrC,f108,h1,h2,h7,h8,h9,g1,g0,g2,hs',hc,unP,bH,fy,bj,undef,uR,sR,aR,aW,zR,rf0,rf1,fb,dJ,cF,b9,number,FP.free,cC,FP.apart]
   ·have g3:=g3 rfl hs hc
    have g4:=g4 rfl hs hc
    by_cases hc2:c2=0
    ·have hc2':(c2 != 0)=false:=by simpa using hc2
     refine .inr ⟨by simp[hc,hc2,hs],?_⟩
     simp[Dy,rrC,f108,h1,h2,h7,h8,h9,g1,g0,g2,g3,g4,hs',hc,hc2',unP,aW,number,FP.free,cC,FP.apart]
    ·have hc2':(c2 != 0)=true:=by simpa using hc2
     refine .inl ⟨by simp[hc,hc2,hs],?_⟩
     simp[Dy,rrC,f108,h1,h2,h7,h8,h9,g1,g0,g2,g3,g4,hs',hc,hc2',unP,bH,fy,bj,undef,uR,sR,aR,aW,zR,rf0,rf1,fb,dJ,cF,b9,number,FP.free,cC,FP.apart]
theorem ZR(n d:Int)(h1:fr.length=61)(h2:nth fr 2 = .ptr 0 0)(h7:nth fr 7 = .ptr 1 0)(h9:nth fr 9 = .ptr 2 0) :
  ∃ st,ae (CC L) run k (ai 6 rrC) ⟨fr,[zR4,bW n,bW d],wr⟩=some (.ret,st)∧aY TT st.fr st.hp f108.results.toList=some [ch n d,.sc (.bool true)]:=by
 rw[gr]
 simp only[bW]
 generalize aJ n.natAbs=rn at *
 generalize bw n=nn at *
 generalize aJ d.natAbs=rd at *
 generalize bw d=nd at *
 simp[rrC,f108,h1,h2,h7,h9,cf,bH,bj,uR,sR,aR,aW,zR,rf0,rf1,fb,dJ,j6,cF,b9,number,FP.free,cC,FP.apart]
def L15:Lst:=[(153,rM),(154,zJ),(97,ofF),(101,js),(96,uX),(150,xW)]
theorem ahb:dt base.P L15:=⟨Pe,Nn,ml,jT,oc,rA,trivial⟩
theorem abp:bC L15 153=fun a=>rM (aK a):=rfl
theorem UD:bC L15 154=fun a=>zJ (aK a):=rfl
theorem afA:bC L15 97=fun a=>ofF (aK a):=rfl
theorem UC:bC L15 101=fun a=>js (aK a):=rfl
theorem abq:bC L15 96=fun a=>uX (aK a):=rfl
theorem abo:bC L15 150=fun a=>xW (aK a):=rfl
def jA (s:ByteArray):ByteArray:=match idx s with
 | .ofNat i=>mkStr ((bO s).take i)
 | .negSucc _=>s
def jz (s:ByteArray):ByteArray:=match idx s with
 | .ofNat i=>mkStr ((bO s).drop (i+1))
 | .negSucc _=>{ data:=#[] }
def uV (s:ByteArray):Bool:=match idx s with
 | .ofNat _=>true
 | .negSucc _=>false
theorem acY (s:ByteArray):mY s=[.sc (.string (jA s)),.sc (.string (jz s)),.sc (.bool (uV s))]:=by
 unfold mY jA jz uV
 cases idx s <;> rfl
theorem WI (s:ByteArray):(bys (jA s)).length≤(bys s).length:=by
 unfold jA
 cases idx s with
 | ofNat i=>simp only[jO,fh,List.length_take];omega
 | negSucc i=>exact Nat.le_refl _
theorem WH (s:ByteArray):(bys (jz s)).length≤(bys s).length:=by
 unfold jz
 cases idx s with
 | ofNat i=>simp only[jO,fh,List.length_drop];omega
 | negSucc i=>exact Nat.zero_le _
def eT (s:ByteArray):Int:=match gE s with
 | some z=>z
 | none=>0
def iu (s:ByteArray):Bool:=match gE s with
 | some _=>true
 | none=>false
theorem acC(s:ByteArray)(hk:lN s=true):aA L15 run 153 [.sc (.string s),.sc (.string gL)] (.tup [.sc (.string (jA s)),.sc (.string (jz s)),.sc (.bool (uV s))]):=fun dr hp =>
 bq (L:=L15) (f:=rM) aez abp run dr hp _ [.sc (.string (jA s)),.sc (.string (jz s)),.sc (.bool (uV s))] rfl rfl (by
  rw[← acY]
  show (bif true && lN s then some (mY s) else none)=_
  rw[hk];rfl)
theorem Fh (run:av)(s:ByteArray)(hl:(bys s).length<3000000):aA L15 run 154 [.sc (.string s)] (.tup [bt (eT s),.sc (.bool (iu s))]):=fun dr hp =>
 bq (L:=L15) (f:=zJ) Zh UD run dr hp _ [bt (eT s),.sc (.bool (iu s))] rfl rfl (by
  have h:(bys s).length.blt 3000000=true:=by rw[Nat.blt_eq];exact hl
  simp only[zJ,h,cond_true]
  unfold eT iu
  cases gE s <;> rfl)
theorem VT:aA L15 run 97 [.sc (.int .i64 1)] (bt 1):=fun dr hp =>
 bq (L:=L15) (f:=ofF) Dq afA run dr hp _ [bt 1] rfl rfl rfl
theorem VS(x:Int)(hx:Sm x):aA L15 run 101 [bt x] (Ab.bJ x.sign):=fun dr hp =>
 bq (L:=L15) (f:=js) vh UC run dr hp _ [Ab.bJ x.sign] (og hp x) (kL x) (by simp only[js,cQ hx])
theorem LB(x y:Int)(hx:Sm x)(hy:Sm y):aA L15 run 96 [bt x,bt y] (Ab.bJ (fX x y)):=fun dr hp =>
 bq (L:=L15) (f:=uX) RV abq run dr hp _ [Ab.bJ (fX x y)] (gY hp x y) (fN x y) (by simp only[uX,cQ hx,cQ hy])
theorem acB(x y:Int)(hx:Sm x)(hy:Sm y):aA L15 run 150 [bt x,bt y] (bt (Int.ofNat (Nat.gcd x.natAbs y.natAbs))):=fun dr hp =>
 bq (L:=L15) (f:=xW) RU abo run dr hp _ [bt (Int.ofNat (Nat.gcd x.natAbs y.natAbs))] (gY hp x y) (fN x y) (by simp only[xW,cQ hx,cQ hy])
def aeL (n d:Int)(ok:Bool):Option Ψ :=
 bif smB n && (smB d && (smB (Int.ofNat (Nat.gcd n.natAbs d.natAbs)))) then
  bif wz ok n.sign (fX d 1) (fX (Int.ofNat (Nat.gcd n.natAbs d.natAbs)) 1) then some [ch 0 0,.sc (.bool false)] else some [ch n d,.sc (.bool true)]
 else none
def rrF:Ψ→Option Ψ
 | [.sc (.string s)]=>bif (bys s).length.blt 3000000 && lN s then
   (bif iu (jA s) && uV s then aeL (eT (jA s)) (eT (jz s)) (iu (jz s)) else some [ch (eT (jA s)) 1,.sc (.bool (iu (jA s)))]) else none
 | _=>none
theorem Ud(n d:Int)(b:Bool):bu (snap hp bn) [ch n d,.sc (.bool b)]=some ([ch n d,.sc (.bool b)],[]):=rfl
theorem vp:Ab.Spec base.P 108 rrF:=Ab.Spec.bL (C:=CC L15) (cP ahb) fun args rs h=>by
 unfold rrF at h
 split at h
 ·rename_i s
  cases hb:(bys s).length.blt 3000000 && lN s with
  | false=>rw[hb] at h;cases h
  | true =>
   rw[hb] at h
   simp only[cond_true] at h
   simp only[Bool.and_eq_true,Nat.blt_eq] at hb
   have hA:=Nat.lt_of_le_of_lt (WI s) hb.1
   have hB:=Nat.lt_of_le_of_lt (WH s) hb.1
   obtain⟨f1,wr1,a1,a2,a3,a4,a5,a6,a7⟩:=aeK L15 (runK (CC L15) 1) 1 s _ _ _ _ _ (acC _ s hb.2) (Fh _ _ hA)
   cases hc:iu (jA s) && uV s with
   | false =>
    rw[hc] at h
    simp only[cond_false,OiE] at h
    subst h
    have hor:iu (jA s)=false∨uV s=false:=by
     revert hc;cases iu (jA s) <;> cases uV s <;> simp
    obtain⟨st,e1,e2⟩:=aeJ L15 (runK (CC L15) 1) 1 f1 wr1 _ _ _ hor (VT _) a2 a3 a5 a6 a7
    have hx:ae (CC L15) (runK (CC L15) 1) 1 rrC ⟨entry 61 [.sc (.string s)],[],[]⟩=some (.ret,st):=by
     rw[aU 3 a1,zH,bK e1]
    exact⟨2,_,_,_,_,_,aZ mO rfl hx e2,Ud _ _ _ _,Wk.refl rfl,Wk.refl rfl,trivial⟩
   | true =>
    rw[hc] at h
    simp only[cond_true] at h
    rw[Bool.and_eq_true] at hc
    rw[hc.1] at a7
    rw[hc.2] at a5
    obtain⟨f2,b1,b2,b3,b4,b5⟩:=aeI L15 (runK (CC L15) 1) 1 f1 wr1 (eT (jA s)) a2 a3 a5 a6 a7
    obtain⟨f3,wr3,c1,c2,c3,c4,c5,c6⟩:=ahZ L15 (runK (CC L15) 1) 1 f2 wr1 (jz s) _ (eT (jA s)) _ (Fh _ _ hB) b2 b3 (by rw[b4,a4]) b5
    generalize eT (jA s)=n at *
    generalize eT (jz s)=d at *
    generalize iu (jz s)=ok at *
    unfold aeL at h
    cases hg:smB n && (smB d && (smB (Int.ofNat (Nat.gcd n.natAbs d.natAbs)))) with
    | false=>rw[hg] at h;cases h
    | true =>
     rw[hg] at h
     simp only[cond_true] at h
     simp only[Bool.and_eq_true] at hg
     obtain⟨s1,s2,s4⟩:=hg
     have hx0:ae (CC L15) (runK (CC L15) 1) 1 rrC ⟨entry 61 [.sc (.string s)],[],[]⟩=ae (CC L15) (runK (CC L15) 1) 1 (ai 5 rrC) ⟨f3,[zR4,bW n,bW d],wr3⟩:=by
      rw[aU 3 a1,zH,ao b1,aU 1 c1];rfl
     rcases ahY L15 (runK (CC L15) 1) 1 f3 wr3 ok n d (Int.ofNat (Nat.gcd n.natAbs d.natAbs)) n.sign (fX d 1) (fX (Int.ofNat (Nat.gcd n.natAbs d.natAbs)) 1) (fun _=>VS _ n (iW s1)) (VT _) (fun _ _=>LB _ d 1 (iW s2) JD)
      (fun _ _ _=>acB _ n d (iW s1) (iW s2)) (fun _ _ _=>LB _ _ 1 (iW s4) JD) c2 c3 c4 c5 c6 with ⟨hbad,st,e1,e2⟩| ⟨hbad,f4,d1,d2,d3,d4,d5⟩
     ·rw[hbad] at h
      simp only[cond_true,OiE] at h
      subst h
      have hx:ae (CC L15) (runK (CC L15) 1) 1 rrC ⟨entry 61 [.sc (.string s)],[],[]⟩=some (.ret,st):=by
       rw[hx0,zG,bK e1]
      exact⟨2,_,_,_,[.agg [.sc (.bool false),.sc (.slice none 0 0),.sc (.bool false),.sc (.slice none 0 0)],.sc (.bool false)],[],aZ mO rfl hx e2,rfl,Wk.agg ⟨Wk.refl rfl,Wk.nil false,Wk.refl rfl,Wk.nil false,trivial⟩,Wk.refl rfl,trivial⟩
     ·rw[hbad] at h
      simp only[cond_false,OiE] at h
      subst h
      obtain⟨st,e1,e2⟩:=ZR L15 (runK (CC L15) 1) 1 f4 wr3 n d d2 d3 d4 d5
      have hx:ae (CC L15) (runK (CC L15) 1) 1 rrC ⟨entry 61 [.sc (.string s)],[],[]⟩=some (.ret,st):=by
       rw[hx0,zG,ao d1];exact e1
      exact⟨2,_,_,_,_,_,aZ mO rfl hx e2,Ud _ _ _ _,Wk.refl rfl,Wk.refl rfl,trivial⟩
 ·cases h
theorem uM:base.F.get 145=some f145:=by kernel_rfl
theorem P5:base.F.get 94=some f94:=by kernel_rfl
theorem J3:base.F.get 43=some f43:=by kernel_rfl
theorem MX:base.shared 145=false:=by kernel_rfl
theorem ZF:base.shared 94=false:=by kernel_rfl
def nd:Nat→Nat→Nat
 | 0,_=>0
 | k+1,x=>bif x.beq 0 then 0 else nd k (x / 10)+1
def gX:Code:=f145.body.getD .skip
def oY:Code:=((f145.body).bind az).getD .skip
theorem Jd(h29:fr.length=29)(h4:nth fr 4 = .sc (.int .u32 (0:Nat))) :
  ∃ fr',ae (CC L) run k oY ⟨fr,hp,wr⟩=some (.exit 0,⟨fr',hp,wr⟩)∧fr'.length=29∧nth fr' 3=nth fr 3:=by
 simp[oY,f145,az,h29,h4]
theorem Yy (k:IntKind)(a s:Nat)(h:s=a / 10)(hs:s≤hiN k):bB k ((a:Int) / 10)=(s:Int):=by
 have e:((a:Int) / 10)=(s:Int):=by omega
 rw[e];exact dp k _ hs
theorem Ch(c x y:Nat)(hc:c<100000000)(hx:0<x)(hx2:x≤4294967295)(hy:y=x / 10)(h29:fr.length=29)(h3:nth fr 3 = .sc (.int .i64 (c:Int)))(h4:nth fr 4 = .sc (.int .u32 (x:Int))) :
  ∃ fr',ae (CC L) run k oY ⟨fr,hp,wr⟩=some (.normal,⟨fr',hp,wr⟩)∧fr'.length=29∧nth fr' 3 = .sc (.int .i64 ((c+1:Nat):Int))∧nth fr' 4 = .sc (.int .u32 (y:Int)):=by
 have hw:=bE c (Nat.lt_trans hc (by decide))
 have hw2:=Yy .u32 x y hy (iC (by omega))
 simp[oY,f145,az,h29,h3,h4,hx,hw,hw2]
theorem uE (L:Lst)(run:av)(k:Nat)(hp:Θ)(wr:Ω):∀ (n x c:Nat) (fr:Ψ),x<10 ^ n→c+n<100000000→x≤4294967295→fr.length=29→nth fr 3 = .sc (.int .i64 (c:Int))→nth fr 4 = .sc (.int .u32 (x:Int)) →
  ∃ fr',cg (ae (CC L) run k oY) (n+1) ⟨fr,hp,wr⟩=some (.exit 0,⟨fr',hp,wr⟩)∧fr'.length=29∧nth fr' 3 = .sc (.int .i64 ((c+nd n x:Nat):Int))
 | n,x,c,fr,hx,hc,hx2,h29,h3,h4=>by
  by_cases h0:x=0
  ·subst h0
   obtain⟨fr',g1,g2,g3⟩:=Jd L run k fr hp wr h29 h4
   refine⟨fr',br g1,g2,?_⟩
   rw[g3,h3]
   cases n <;> rfl
  ·cases n with
   | zero=>simp at hx;exact absurd hx h0
   | succ n =>
    obtain⟨fr1,g1,g2,g3,g4⟩:=Ch L run k fr hp wr c x _ (by omega) (by omega) hx2 rfl h29 h3 h4
    obtain⟨fr',q1,q2,q3⟩:=uE L run k hp wr n (x / 10) (c+1) fr1 (by rw[Nat.pow_succ] at hx;omega) (by omega) (by omega) g2 g3 g4
    refine⟨fr',by rw[bU g1];exact q1,q2,?_⟩
    rw[q3]
    have hb:x.beq 0=false:=by
     cases x with
     | zero=>exact absurd rfl h0
     | succ x=>rfl
    rw[nd,hb,cond_false]
    congr 3;omega
def rI:Code:=seq1 (seq1 (ai 3 gX))
theorem Cg:ai 3 gX = .seq (.seq rI (.block 0 (.loop oY))) (ai 4 gX):=rfl
theorem Jc(n:Bool):∃ st,ae (CC L) run k gX ⟨entry 29 [wh n []],[],[]⟩=some (.ret,st)∧aY TT st.fr st.hp f145.results.toList=some [Ab.bJ 0]:=by
 obtain⟨e1,e2⟩:=cV 28 (wh n [])
 generalize entry 29 [wh n []]=fr0 at *
 rw[show wh n [] = .agg [.sc (.bool n),aL []] from rfl] at e2
 simp[gX,f145,e1,e2,bM,bN,cl,uW,uD,sD,aD,wf0,wf1,bd,Ab.bJ]
set_option maxHeartbeats 1000000 in
theorem Jb (L:Lst)(run:av)(k:Nat)(n:Bool)(l:Ω)(a c:Nat)(hc:c=9*l.length)(hl:l.length<1000000) :
  ∃ f1 fr,bh (CC L) run k 3 gX ⟨entry 29 [wh n (l++[a])],[],[]⟩=some ⟨f1,[⟨.live,[.sc (.bool n),aL (l++[a])]⟩],[0]⟩∧ae (CC L) run k rI ⟨f1,[⟨.live,[.sc (.bool n),aL (l++[a])]⟩],[0]⟩=some (.normal,⟨fr,[⟨.live,[.sc (.bool n),aL (l++[a])]⟩],[0]⟩)∧fr.length=29
   ∧ nth fr 3 = .sc (.int .i64 (c:Int))∧nth fr 4 = .sc (.int .u32 (a:Int)):=by
 obtain⟨e1,e2⟩:=cV 28 (wh n (l++[a]))
 generalize entry 29 [wh n (l++[a])]=fr0 at *
 have hd:(bz ((l++[a]).map dg) l.length).head?=some (.sc (.int .u32 a)):=by
  rw[eJ _ _ (by simp)];simp[dg]
 have hE:aL (l++[a]) = .imm (l.length+1) false ((l++[a]).map dg):=by simp[aL]
 rw[show wh n (l++[a]) = .agg [.sc (.bool n),aL (l++[a])] from rfl,hE] at e2
 rw[hE]
 obtain⟨m,hm⟩:∃ m,m=l.length:=⟨_,rfl⟩
 rw[← hm] at hd hc e2 hl ⊢
 have hw:bB .i64 (m:Int)=(m:Int):=cp .i64 m (hiI (by omega))
 have hw2:bB .i64 (9*(m:Int))=(c:Int):=by
  have e:(9*(m:Int))=(c:Int):=by omega
  rw[e];exact cp .i64 c (hiI (by omega))
 have hne:((m:Int)+1 == 0)=false:=by
  rw[beq_eq_false_iff_ne];omega
 have hlt:m<m+1:=by omega
 generalize (l++[a]).map dg=cs at *
 have p1:∃ f1,bh (CC L) run k 3 gX ⟨fr0,[],[]⟩=some ⟨f1,[⟨.live,[.sc (.bool n),.imm (m+1) false cs]⟩],[0]⟩∧f1.length=29∧nth f1 1 = .ptr 0 0∧nth f1 3 = .sc (.int .i64 (c:Int)):=by
  simp[gX,f145,bh,e1,e2,bM,bN,cR,uW,uD,sD,aD,wf0,wf1,bd,hne,hw,hw2]
 obtain⟨f1,q1,q2,q3,q4⟩:=p1
 refine⟨f1,?_⟩
 rw[q1]
 have p2:∃ fr,ae (CC L) run k rI ⟨f1,[⟨.live,[.sc (.bool n),.imm (m+1) false cs]⟩],[0]⟩=some (.normal,⟨fr,[⟨.live,[.sc (.bool n),.imm (m+1) false cs]⟩],[0]⟩)∧fr.length=29∧nth fr 3 = .sc (.int .i64 (c:Int))∧nth fr 4 = .sc (.int .u32 (a:Int)):=by
  simp[rI,gX,f145,q2,q3,q4,bM,bc,bN,bm,cR,uW,uD,sD,s32,aD,a32,wf0,wf1,hw,hlt,hd]
 obtain⟨fr,r1,r2⟩:=p2
 exact⟨fr,rfl,r1,r2⟩
theorem Fw(z:Int)(h29:fr.length=29)(h3:nth fr 3 = .sc (.int .i64 z)) :
  ∃ st,ae (CC L) run k (ai 4 gX) ⟨fr,hp,wr⟩=some (.ret,st)∧aY TT st.fr st.hp f145.results.toList=some [Ab.bJ z]:=by
 simp[gX,f145,h29,h3,Ab.bJ]
def pR (l:Ω):Nat:=match l.getLast? with
 | none=>0
 | some a=>9*(l.length - 1)+nd 9 a
def kJ:Ψ→Option Ψ
 | [.agg [.sc (.bool _),p]]=>match gU p with
  | some l=>some [Ab.bJ (Int.ofNat (pR l))]
  | none=>none
 | _=>none
theorem oa:Ab.Spec base.P 145 kJ:=Ab.Spec.bL (C:=CC []) (cP trivial) fun args rs h=>by
 unfold kJ at h
 split at h
 ·split at h
  ·rename_i n p _ l hl
   obtain⟨rfl,hd,hlen⟩:=dy hl
   simp only[OiE] at h
   subst h
   by_cases h0:l=[]
   ·subst h0
    obtain⟨st,e1,e2⟩:=Jc [] (runK (CC []) 1) 1 n
    exact⟨2,_,_,_,_,_,aZ uM rfl e1 e2,eB _ _,Wk.refl rfl,trivial⟩
   ·obtain⟨m,a,rfl⟩:∃ m a,l=m++[a]:=⟨l.dropLast,l.getLast h0,(List.dropLast_concat_getLast h0).symm⟩
    have ha:a<1000000000:=hd a (by simp)
    have hm:m.length<1000000:=by simp at hlen;omega
    obtain⟨f1,f2,a1,a2,a3,a4,a5⟩:=Jb [] (runK (CC []) 10) 10 n m a (9*m.length) rfl hm
    obtain⟨f3,b1,b2,b3⟩:=uE [] (runK (CC []) 10) 10 [⟨.live,[.sc (.bool n),aL (m++[a])]⟩] [0] 9 a (9*m.length) f2 (Nat.lt_of_lt_of_le ha (by decide)) (by omega) (Nat.le_trans (Nat.le_of_lt ha) (by decide)) a3 a4 a5
    obtain⟨st,e1,e2⟩:=Fw [] (runK (CC []) 10) 10 f3 _ _ _ b2 b3
    have hx:ae (CC []) (runK (CC []) 10) 10 gX ⟨entry 29 [wh n (m++[a])],[],[]⟩=some (.ret,st):=by
     rw[aU 3 a1,Cg,ao ((ao a2).trans (bD b1))]
     exact e1
    have hN:pR (m++[a])=9*m.length+nd 9 a:=by simp[pR]
    rw[hN]
    exact⟨11,_,_,_,_,_,aZ uM rfl hx e2,eB _ (9*m.length+nd 9 a:Nat),Wk.refl rfl,trivial⟩
  ·cases h
 ·cases h
def L16:Lst:=[(145,kJ)]
theorem o16:bC L16 145=fun a=>kJ (aK a):=rfl
theorem g16(n:Bool)(l:Ω)(hd:Dok l)(hl:l.length<1000000):aA L16 run 145 [.agg [.sc (.bool n),aL l]] (Ab.bJ (Int.ofNat (pR l))):=fun dr hp =>
 bq (L:=L16) (f:=kJ) MX o16 run dr hp _ [Ab.bJ (Int.ofNat (pR l))] rfl (by simp only[aK,canon,jc,aL]) (by simp only[kJ,cZ hd hl])
theorem OI(n:Bool)(l:Ω)(c:Nat)(g1:aA L run 145 [.agg [.sc (.bool n),aL l]] (Ab.bJ (Int.ofNat c))) :
  ∃ st,ae (CC L) run k (f94.body.getD .skip) ⟨entry 6 [wh n l],[],[]⟩=some (.ret,st)∧aY TT st.fr st.hp f94.results.toList=some [.sc (.bool (decide (1000<c)))]:=by
 obtain⟨e1,e2⟩:=cV 5 (wh n l)
 generalize entry 6 [wh n l]=fr0 at *
 rw[show wh n l = .agg [.sc (.bool n),aL l] from rfl] at e2
 unfold aA at g1
 simp only[Ab.bJ,Int.ofNat_eq_natCast] at g1
 have hc:((c:Int) > 1000)=(1000<c):=by apply propext;omega
 have hc2:((1000:Int)<c)=(1000<c):=by apply propext;omega
 simp[f94,e1,e2,g1,hc,aW,bd]
def xI:Ψ→Option Ψ
 | [.agg [.sc (.bool _),p]]=>match gU p with
  | some l=>some [.sc (.bool (decide (1000<pR l)))]
  | none=>none
 | _=>none
theorem ta:Ab.Spec base.P 94 xI:=Ab.Spec.bL (C:=CC L16) (cP ⟨oa,trivial⟩) fun args rs h=>by
 unfold xI at h
 split at h
 ·split at h
  ·rename_i n p _ l hl
   obtain⟨rfl,hd,hlen⟩:=dy hl
   simp only[OiE] at h
   subst h
   obtain⟨st,e1,e2⟩:=OI L16 (runK (CC L16) 1) 1 n l _ (g16 _ n l hd hlen)
   exact⟨2,_,_,_,_,_,aZ P5 rfl e1 e2,xw _ _,Wk.refl rfl,trivial⟩
  ·cases h
 ·cases h
def L17:Lst:=[(94,xI)]
theorem o17:bC L17 94=fun a=>xI (aK a):=rfl
theorem g17(z:Int)(hz:Sm z):aA L17 run 94 [bt z] (.sc (.bool (decide (1000<pR (aJ z.natAbs))))):=fun dr hp =>
 bq (L:=L17) (f:=xI) ZF o17 run dr hp _ [.sc (.bool (decide (1000<pR (aJ z.natAbs))))] (og hp z) (kL z) (by
  show (match gU (aL (aJ z.natAbs)) with | some l=>some [PV.sc (.bool (decide (1000<pR l)))] | none=>none)=_
  rw[cZ (bV _) hz.lt])
theorem Hp(a b:Int)(p q:Bool)(g1:aA L run 94 [bt a] (.sc (.bool p)))(g2:aA L run 94 [bt b] (.sc (.bool q))) :
  ∃ st,ae (CC L) run k (f43.body.getD .skip) ⟨entry 11 [ch a b],[],[]⟩=some (.ret,st)∧aY TT st.fr st.hp f43.results.toList=some [.sc (.bool (p || q))]:=by
 obtain⟨h1,h2⟩:=cV 10 (ch a b)
 generalize entry 11 [ch a b]=fr0 at *
 unfold aA at *
 simp only[whW,gr] at *
 cases p <;> simp[f43,h1,h2,bN,g1,g2,undef,uR,aW,rf0,rf1,bd]
def np:Ψ→Option Ψ
 | [p]=>match gC p with
  | some (a,b)=>some [.sc (.bool (decide (1000<pR (aJ a.natAbs)) || decide (1000<pR (aJ b.natAbs))))]
  | none=>none
 | _=>none
theorem pG:Ab.Spec base.P 43 np:=Ab.Spec.bL (C:=CC L17) (cP ⟨ta,trivial⟩) fun args rs h=>by
 unfold np at h
 split at h
 ·split at h
  ·rename_i a b ex
   obtain⟨rfl,ha,hb⟩:=eh ex
   simp only[OiE] at h
   subst h
   obtain⟨st,e1,e2⟩:=Hp L17 (runK (CC L17) 1) 1 a b _ _ (g17 _ a ha) (g17 _ b hb)
   exact⟨2,_,_,_,_,_,aZ J3 rfl e1 e2,xw _ _,Wk.refl rfl,trivial⟩
  ·cases h
 ·cases h
end Go.Proofs.YtjdmodeenbdfpaaGreat
end
