/- An abstract interpreter over the model's code and its soundness, part 30 of the proof; each lemma states its own conditions. -/
import Derived.Test.YtjdmodeenbdfpaaGreatT27
import Derived.Test.YtjdmodeenbdfpaaGreatT29
set_option linter.unusedSimpArgs false
set_option linter.unusedVariables false
noncomputable section
namespace Go.Ab
open List
theorem lZ {x y q r:Int}(hy:0<y)(h:x=y*q+r)(h0:0≤r)(h1:r<y):x / y=q∧x % y=r :=
 (Int.ediv_emod_unique hy).2 ⟨by rw[h];exact Int.add_comm _ _,h0,h1⟩
theorem agc {x y:Int}(hy:0<y)(hx:x<0)(h:x.natAbs % y.natAbs≠0):x / y = -((x.natAbs / y.natAbs:Nat):Int) - 1∧x % y = -((x.natAbs % y.natAbs:Nat):Int)+y:=by
 have h1:=Nat.div_add_mod x.natAbs y.natAbs
 have h2:=Nat.mod_lt x.natAbs (show 0<y.natAbs by omega)
 generalize hq:x.natAbs / y.natAbs=q at *
 generalize hr:x.natAbs % y.natAbs=r at *
 have h3:(x.natAbs:Int)=(y.natAbs:Int)*(q:Int)+(r:Int):=by rw[← h1];simp
 have hy':(y.natAbs:Int)=y:=by omega
 rw[hy'] at h3
 refine lZ hy ?_ (by omega) (by omega)
 rw[Int.mul_sub,Int.mul_neg,Int.mul_one]
 omega
theorem acd {x y:Int}(hy:0<y)(hx:x<0)(h:x.natAbs % y.natAbs=0):x / y = -((x.natAbs / y.natAbs:Nat):Int)∧x % y=0:=by
 have h1:=Nat.div_add_mod x.natAbs y.natAbs
 rw[h] at h1
 generalize hq:x.natAbs / y.natAbs=q at *
 have h3:(x.natAbs:Int)=(y.natAbs:Int)*(q:Int):=by rw[← h1];simp
 have hy':(y.natAbs:Int)=y:=by omega
 rw[hy'] at h3
 refine lZ hy ?_ (by omega) (by omega)
 rw[Int.mul_neg]
 omega
theorem agb {x y:Int}(hy:0<y)(hx:0≤x):x / y=((x.natAbs / y.natAbs:Nat):Int)∧x % y=((x.natAbs % y.natAbs:Nat):Int):=by
 have h1:=Nat.div_add_mod x.natAbs y.natAbs
 have h2:=Nat.mod_lt x.natAbs (show 0<y.natAbs by omega)
 generalize hq:x.natAbs / y.natAbs=q at *
 generalize hr:x.natAbs % y.natAbs=r at *
 have h3:(x.natAbs:Int)=(y.natAbs:Int)*(q:Int)+(r:Int):=by rw[← h1];simp
 have hy':(y.natAbs:Int)=y:=by omega
 rw[hy'] at h3
 exact lZ hy (by omega) (by omega) (by omega)
def fS:List Nat→Option Nat
 | []=>none
 | a::l=>bif a.beq 47 then some 0 else (fS l).map (· + 1)
def qtx (n d:Int):List Nat:=if d=1 then ztx n else ztx n++47::ztx d
theorem Iw {l:List Nat}(h:∀ x ∈ l,x≠47):fS l=none:=by
 induction l with
 | nil=>rfl
 | cons a l ih =>
  have ha:a.beq 47=false:=by
   cases e:a.beq 47 with
   | false=>rfl
   | true=>exact absurd (Nat.eq_of_beq_eq_true e) (h a (by simp))
  rw[fS,ha,cond_false,ih fun x hx=>h x (by simp[hx])]
  rfl
theorem OP {l:List Nat}(h:∀ x ∈ l,x≠47)(m:List Nat):fS (l++47::m)=some l.length:=by
 induction l with
 | nil=>rfl
 | cons a l ih =>
  have ha:a.beq 47=false:=by
   cases e:a.beq 47 with
   | false=>rfl
   | true=>exact absurd (Nat.eq_of_beq_eq_true e) (h a (by simp))
  rw[cons_append,fS,ha,cond_false,ih fun x hx=>h x (by simp[hx])]
  rfl
theorem PW (z:Int):∀ x ∈ ztx z,x≠47:=by
 intro x hx
 rw[se,mem_append] at hx
 rcases hx with hx | hx
 ·cases h:bA z <;> rw[h] at hx <;> simp at hx
  omega
 ·have:=dN.1 (fN (ox _) hx)
  omega
theorem X9:ztx 1=[49]:=by decide
theorem HO (n d:Int):Bok (qtx n d):=by
 unfold qtx
 split
 ·exact lp n
 ·exact (lp n).append ((lp d).cons (by omega))
theorem OO (n d:Int):fS (qtx n d)=if d=1 then none else some (ztx n).length:=by
 unfold qtx
 split
 ·exact Iw (PW n)
 ·exact OP (PW n) _
end Go.Ab
namespace Go.Proofs.YtjdmodeenbdfpaaGreat
open Go Go.Ab List Tryz
attribute [local simp] FzZ aA aC aF aG aH aa ab ae af ag ai aj an and_assoc ao aq aw az bc bj
variable(L:Lst)(run:ar)(k:Nat)(fr:List PV)(hp:List Blk)(wr:List Nat)
theorem sb:base.F.get 65=some f65:=by kernel_rfl
theorem FM:base.F.get 48=some f48:=by kernel_rfl
theorem Jm:base.F.get 122=some f122:=by kernel_rfl
theorem Ck:base.F.get 70=some f70:=by kernel_rfl
theorem uP:base.F.get 24=some f24:=by kernel_rfl
theorem Cj:base.F.get 34=some f34:=by kernel_rfl
theorem yD:base.F.get 26=some f26:=by kernel_rfl
theorem po:base.F.get 64=some f64:=by kernel_rfl
theorem Ci:base.F.get 23=some f23:=by kernel_rfl
theorem yC:base.F.get 67=some f67:=by kernel_rfl
theorem ko:base.shared 65=false:=by kernel_rfl
theorem zC:base.shared 48=false:=by kernel_rfl
theorem Q4:base.shared 122=false:=by kernel_rfl
theorem GB:base.shared 70=false:=by kernel_rfl
theorem Mx:base.shared 24=false:=by kernel_rfl
theorem GA:base.shared 34=false:=by kernel_rfl
theorem Q5:base.shared 26=false:=by kernel_rfl
theorem YR:base.shared 64=false:=by kernel_rfl
theorem Gz:base.shared 23=false:=by kernel_rfl
theorem Q0:base.shared 67=false:=by kernel_rfl
def LT5:Lst:=[(120,nQ),(66,iV),(100,oX)]
theorem agV:dw base.P LT5:=⟨xj,nP,ur,trivial⟩
theorem aan:bu LT5 120=fun a=>nQ (aJ a):=rfl
theorem TP:bu LT5 66=fun a=>iV (aJ a):=rfl
theorem Zm.neg {z:Int}(h:Zm z)(h2:Ab.eH z<fX):Zm (-z):=by
 unfold Zm
 rw[gN,Ct]
 cases bA (-z) <;> simp <;> omega
theorem HH(s t u r:ByteArray)(g1:au L run 120 [.sc (.string t)] (.sc (.string u)))(g2:au L run 66 [.sc (.string s),.sc (.string u)] (.sc (.string r))) :
  ∃ st,af (CC L) run k (f157.body.getD .skip) ⟨entry 9 [.sc (.string s),.sc (.string t)],[],[]⟩=some (.ret,st)∧aU TT st.fr st.hp f157.results.toList=some [.sc (.string r)]:=by
 obtain⟨e1,e2,e3⟩:=cn 7 (.sc (.string s)) (.sc (.string t))
 generalize entry 9 [.sc (.string s),.sc (.string t)]=fr0 at *
 unfold au at *
 simp[f157,e1,e2,e3,aL,g1,g2,aU]
def xk:List PV→Option (List PV)
 | [p,q]=>match fT p,fT q with
  | some x,some y=>bif (eH y).blt fX then some [zs (x - y)] else none
  | _,_=>none
 | _=>none
theorem HG:Ab.Spec base.P 157 xk:=Ab.Spec.bM (C:=CC LT5) (cP agV) fun args rs h=>by
 unfold xk at h
 split at h
 ·split at h
  ·rename_i x y ex ey
   obtain⟨rfl,hx⟩:=dx ex
   obtain⟨rfl,hy⟩:=dx ey
   cases hb:(eH y).blt fX with
   | false=>rw[hb] at h;cases h
   | true =>
    rw[hb] at h
    simp only[cond_true,OiE] at h
    subst h
    rw[Nat.blt_eq] at hb
    have hn:=Zm.neg hy hb
    have g1:au LT5 (runK (CC LT5) 1) 120 [zs y] (zs (-y)):=fun dr hp=>bw C6 aan _ dr hp _ [zs (-y)] rfl rfl (by simp only[nQ,cQ y hy])
    have g2:au LT5 (runK (CC LT5) 1) 66 [zs x,zs (-y)] (zs (x + -y)):=fun dr hp=>bw ss TP _ dr hp _ [zs (x + -y)] rfl rfl (by simp only[iV,cQ x hx,cQ (-y) hn])
    obtain⟨st,x1,x2⟩:=HH LT5 (runK (CC LT5) 1) 1 _ _ _ _ g1 g2
    exact⟨2,_,_,_,_,_,aP Cm rfl x1 x2,rfl,Wk.refl rfl,trivial⟩
  ·cases h
 ·cases h
theorem aiM (a:Nat):((a:Int) == 47)=a.beq 47:=by
 cases h:a.beq 47 with
 | true=>rw[Nat.eq_of_beq_eq_true h];rfl
 | false =>
  rw[beq_eq_false_iff_ne]
  intro e
  have:a=47:=by omega
  subst this;cases h
theorem Mk (l:List Nat)(k:Nat)(hp:List Blk)(h:k≤l.length):dq TT hp 27 (.sc (.string (tx l))) (some (.sc (.int .i64 (k:Int)))) none none=some (.sc (.string (tx (l.drop k)))):=by
 simp only[dq,uAR,eu,dX,bnd,fk,bm]
 simp[tx,fy,h]
 rw[take_of_length_le (by simp)]
theorem Ml (l:List Nat)(k:Nat)(hp:List Blk)(h:k≤l.length):dq TT hp 27 (.sc (.string (tx l))) none (some (.sc (.int .i64 (k:Int)))) none=some (.sc (.string (tx (l.take k)))):=by
 simp only[dq,uAR,eu,dX,bnd,fk,bm]
 simp[tx,fy,h]
def qS:Code:=f65.body.getD .skip
def qT:Code:=((f65.body).bind aC).getD .skip
theorem Sp(l:List Nat)(h24:fr.length=24)(h0:nth fr 0 = .sc (.string (tx l)))(h5:nth fr 5=iv l.length) :
  ∃ fr',af (CC L) run k qT ⟨fr,[],[]⟩=some (.exit 0,⟨fr',[],[]⟩)∧fr'.length=24∧nth fr' 0 = .sc (.string (tx l)):=by
 simp only[iv] at h5
 simp[qT,f65,bO,bd,dX,h24,h0,h5,uAR]
set_option maxHeartbeats 1000000 in
theorem Zx(l:List Nat)(i:Nat)(hl:Bok l)(hi:i<l.length)(hi9:i<20000000)(hd:(at0 l i).beq 47=false)(h24:fr.length=24)(h0:nth fr 0 = .sc (.string (tx l)))(h5:nth fr 5=iv i) :
  ∃ fr',af (CC L) run k qT ⟨fr,[],[]⟩=some (.normal,⟨fr',[],[]⟩)∧fr'.length=24∧nth fr' 0 = .sc (.string (tx l))∧nth fr' 5=iv (i+1):=by
 have hx:=fo uAR hl .i64 i hi
 have hb:=aiM (at0 l i)
 rw[hd] at hb
 have hw:=bH i (by omega)
 generalize at0 l i=b at *
 simp only[iv] at h5 ⊢
 simp[qT,f65,bO,bd,dX,h24,h0,h5,uAR,hi,hx,hb,hw]
set_option maxHeartbeats 1000000 in
theorem Sn(l:List Nat)(i:Nat)(hl:Bok l)(hi:i<l.length)(hi9:i<20000000)(hd:(at0 l i).beq 47=true)(h24:fr.length=24)(h0:nth fr 0 = .sc (.string (tx l)))(h5:nth fr 5=iv i) :
  ∃ fr',af (CC L) run k qT ⟨fr,[],[]⟩=some (.ret,⟨fr',[],[]⟩)∧nth fr' 2 = .sc (.string (tx (l.take i)))∧nth fr' 3 = .sc (.string (tx (l.drop (i+1))))∧nth fr' 4 = .sc (.bool true):=by
 have hx:=fo uAR hl .i64 i hi
 have hb:=aiM (at0 l i)
 rw[hd] at hb
 have hw:=bH i (by omega)
 have h1:=Ml l i [] (by omega)
 have h2:dq TT [] 27 (.sc (.string (tx l))) (some (.sc (.int .i64 ((i:Int)+1)))) none none=some (.sc (.string (tx (l.drop (i+1))))):=Mk l (i+1) [] (by omega)
 generalize at0 l i=b at *
 simp only[iv] at h5
 simp[qT,f65,bO,bd,dX,h24,h0,h5,uAR,hi,hx,hb,hw,h1,h2,number,FP.free]
theorem zP (L:Lst)(run:ar)(k:Nat)(l:List Nat)(hl:Bok l)(h9:l.length<20000000):∀ (n i:Nat) (fr:List PV),i+n=l.length→fr.length=24→nth fr 0 = .sc (.string (tx l))→nth fr 5=iv i →
  (fS (l.drop i)=none∧∃ fr',cu (af (CC L) run k qT) (n+1) ⟨fr,[],[]⟩=some (.exit 0,⟨fr',[],[]⟩)∧fr'.length=24∧nth fr' 0 = .sc (.string (tx l))) ∨
  (∃ j fr',fS (l.drop i)=some j∧cu (af (CC L) run k qT) (n+1) ⟨fr,[],[]⟩=some (.ret,⟨fr',[],[]⟩)∧nth fr' 2 = .sc (.string (tx (l.take (i+j))))∧nth fr' 3 = .sc (.string (tx (l.drop (i+j+1))))∧nth fr' 4 = .sc (.bool true))
 | 0,i,fr,hi,h24,h0,h5=>by
  have:i=l.length:=by omega
  subst this
  obtain⟨fr',g1,g2,g3⟩:=Sp L run k fr l h24 h0 h5
  exact .inl ⟨by rw[drop_length];rfl,fr',bD g1,g2,g3⟩
 | n+1,i,fr,hi,h24,h0,h5=>by
  have hil:i<l.length:=by omega
  have hdr:fS (l.drop i)=bif (at0 l i).beq 47 then some 0 else (fS (l.drop (i+1))).map (· + 1):=by rw[drop_eq_getElem_cons hil,dm hil];rfl
  cases hd:(at0 l i).beq 47 with
  | true =>
   obtain⟨fr1,g1,g2,g3,g4⟩:=Sn L run k fr l i hl hil (by omega) hd h24 h0 h5
   exact .inr ⟨0,fr1,by rw[hdr,hd];rfl,eM g1,g2,g3,g4⟩
  | false =>
   obtain⟨fr1,g1,g2,g3,g4⟩:=Zx L run k fr l i hl hil (by omega) hd h24 h0 h5
   rw[hdr,hd,cond_false,ct g1]
   rcases zP L run k l hl h9 n (i+1) fr1 (by omega) g2 g3 g4 with ⟨q1,q2⟩| ⟨j,fr',q1,q2,q3,q4,q5⟩
   ·exact .inl ⟨by rw[q1];rfl,q2⟩
   ·refine .inr ⟨j+1,fr',by rw[q1];rfl,q2,?_,?_,q5⟩
    ·rw[q3,show i+1+j=i+(j+1) by omega]
    ·rw[q4,show i+1+j+1=i+(j+1)+1 by omega]
def Sr:Code:=seq1 (seq1 (ah 1 qS))
theorem wV:ah 1 qS = .seq (.seq Sr (.block 0 (.loop qT))) (ah 2 qS):=rfl
theorem So (L:Lst)(run:ar)(k:Nat)(s:ByteArray) :
  ∃ fr fr',aX (CC L) run k 1 qS ⟨entry 24 [.sc (.string s)],[],[]⟩=some ⟨fr,[],[]⟩∧af (CC L) run k Sr ⟨fr,[],[]⟩=some (.normal,⟨fr',[],[]⟩)∧fr'.length=24∧nth fr' 0 = .sc (.string s)∧nth fr' 5=iv 0:=by
 obtain⟨e1,e2⟩:=cW 23 (.sc (.string s))
 generalize entry 24 [.sc (.string s)]=fr0 at *
 simp[Sr,qS,f65,ah,seq1,aX,e1,e2,iv]
theorem Np(s:ByteArray)(h24:fr.length=24)(h0:nth fr 0 = .sc (.string s)) :
  ∃ st,af (CC L) run k (ah 2 qS) ⟨fr,[],[]⟩=some (.ret,st)∧aU TT st.fr st.hp f65.results.toList=some [.sc (.string s),.sc (.string (tx [49])),.sc (.bool false)]:=by
 have:(tx [49])={ data:=#[49] } := rfl
 rw[this]
 simp[qS,ah,f65,h24,h0,aU]
def kT:List PV→Option (List PV)
 | [.sc (.string s)]=>bif (bys s).length.blt 20000000 then (match fS (bys s) with
  | some j=>some [.sc (.string (tx ((bys s).take j))),.sc (.string (tx ((bys s).drop (j+1)))),.sc (.bool true)]
  | none=>some [.sc (.string s),.sc (.string (tx [49])),.sc (.bool false)]) else none
 | _=>none
theorem oW:Ab.Spec base.P 65 kT:=Ab.Spec.bM (C:=CC []) (cP trivial) fun args rs h=>by
 unfold kT at h
 split at h
 ·rename_i s
  cases hb:(bys s).length.blt 20000000 with
  | false=>rw[hb] at h;cases h
  | true =>
   rw[hb] at h
   simp only[cond_true] at h
   rw[Nat.blt_eq] at hb
   have hok:=mY s
   obtain⟨f1,f2,a1,a2,a3,a4,a5⟩:=So [] (runK (CC []) 20000000) 20000000 s
   have a4':nth f2 0 = .sc (.string (tx (bys s))):=by rw[a4,iO]
   rcases zP [] (runK (CC []) 20000000) 20000000 (bys s) hok hb (bys s).length 0 f2 (by omega) a3 a4' a5 with ⟨q1,f3,q2,q3,q4⟩| ⟨j,f3,q1,q2,q3,q4,q5⟩
   ·rw[drop_zero] at q1
    rw[q1] at h
    simp only[OiE] at h
    subst h
    rw[iO] at q4
    obtain⟨st,x1,x2⟩:=Np [] (runK (CC []) 20000000) 20000000 f3 s q3 q4
    have hx:af (CC []) (runK (CC []) 20000000) 20000000 qS ⟨entry 24 [.sc (.string s)],[],[]⟩=some (.ret,st):=by
     rw[aO 1 a1,wV,av ((av a2).trans (bN (ca q2 (by omega))))]
     exact x1
    exact⟨20000001,_,_,_,_,_,aP sb rfl hx x2,rfl,Wk.refl rfl,Wk.refl rfl,Wk.refl rfl,trivial⟩
   ·rw[drop_zero] at q1
    rw[Nat.zero_add] at q3 q4
    rw[q1] at h
    simp only[OiE] at h
    subst h
    have hx:af (CC []) (runK (CC []) 20000000) 20000000 qS ⟨entry 24 [.sc (.string s)],[],[]⟩=some (.ret,⟨f3,[],[]⟩):=by
     rw[aO 1 a1,wV]
     exact cC ((av a2).trans (df (ca q2 (by omega))))
    have x2:aU TT f3 [] f65.results.toList=some [.sc (.string (tx ((bys s).take j))),.sc (.string (tx ((bys s).drop (j+1)))),.sc (.bool true)]:=by
     simp[f65,aU,q3,q4,q5]
    exact⟨20000001,_,_,_,_,_,aP sb rfl hx x2,rfl,Wk.refl rfl,Wk.refl rfl,Wk.refl rfl,trivial⟩
 ·cases h
def LT6:Lst:=[(156,iT),(118,kX),(119,nR),(115,uo),(116,nf),(113,ue),(114,uk),(66,iV),(157,xk)]
theorem agU:dw base.P LT6:=⟨tW,uc,xl,Ai,sK,z6,Ad,nP,HG,trivial⟩
theorem Ei:bu LT6 156=fun a=>iT (aJ a):=rfl
theorem TM:bu LT6 118=fun a=>kX (aJ a):=rfl
theorem aam:bu LT6 119=fun a=>nR (aJ a):=rfl
theorem aal:bu LT6 115=fun a=>uo (aJ a):=rfl
theorem Ej:bu LT6 116=fun a=>nf (aJ a):=rfl
theorem Oa:bu LT6 113=fun a=>ue (aJ a):=rfl
theorem aaj:bu LT6 114=fun a=>uk (aJ a):=rfl
theorem TN:bu LT6 66=fun a=>iV (aJ a):=rfl
theorem aak:bu LT6 157=fun a=>xk (aJ a):=rfl
theorem xY(x y:Nat)(hx:(T.aK x).length<10000000)(hy:(T.aK y).length<10000000):au LT6 run 118 [bC (T.aK x),bC (T.aK y)] (Ab.bz (ee x y)):=fun dr hp =>
 bw zD TM run dr hp _ [Ab.bz (ee x y)] rfl (oz _ _) (by simp only[kX,ed (T.cb x) hx,ed (T.cb y) hy,qV])
theorem abZ (run:ar)(x y:Nat)(hx:(T.aK x).length<10000000)(hy:(T.aK y).length<10000000)(h:y≤x):au LT6 run 119 [bC (T.aK x),bC (T.aK y)] (bC (T.aK (x - y))):=fun dr hp =>
 bw zE aam run dr hp _ [bC (T.aK (x - y))] rfl (oz _ _) (by
  have h1:(T.aK y).length.ble (T.aK x).length=true:=by rw[Nat.ble_eq];exact T.cK h
  have h2:y.ble x=true:=by rw[Nat.ble_eq];exact h
  simp only[nR,ed (T.cb x) hx,ed (T.cb y) hy,T.cj,h1,h2,Bool.and_self,cond_true])
def rZ (hp hp':List Blk):Prop:=hp.length≤hp'.length∧∀ i,i<hp.length→aY hp' i=aY hp i
theorem rZ.refl:rZ hp hp:=⟨Nat.le_refl _,fun _ _=>rfl⟩
theorem rZ.trans {a b c:List Blk}(h:rZ a b)(h':rZ b c):rZ a c:=⟨Nat.le_trans h.1 h'.1,fun i hi=>by rw[h'.2 i (by have:=h.1;omega),h.2 i hi]⟩
theorem dF.grow {α:Type}{e:α→PV}{b:Nat}{hp hp':List Blk}{l:List α}{p:PV}(h:dF e b hp l p)(g:rZ hp hp'):dF e b hp' l p:=by
 obtain⟨hb,h⟩:=h
 refine⟨Nat.le_trans hb g.1,?_⟩
 rcases h with ⟨rfl,rfl⟩| ⟨id,m,h1,h2,rfl,h⟩
 ·exact .inl ⟨rfl,rfl⟩
 ·exact .inr ⟨id,m,h1,Nat.lt_of_lt_of_le h2 g.1,rfl,by rw[g.2 id h2];exact h⟩
theorem FF (run:ar)(dr:Bool)(hp:List Blk)(c:List Nat)(r:List Nat)(hc:T.Dok c)(hr:T.Dok r)(hl:c.length+r.length<9000000) :
  ∃ p' hp' fp hp'' fp',cJ hp 1 (.imm c.length true (c.map iv)) r.length (r.map iv)=some (p',hp',fp)∧bX (CC LT6) run dr hp' 156 [p']=some (bC (T.aK (T.val (c++r))),hp'',fp')∧rZ hp hp'':=by
 have htr:iT [mS iv (c++r)]=some [bC (T.aK (T.val (c++r)))]:=by
  have h1:=hc.append hr
  have h2:=ed h1 (show (c++r).length<10000000 by simp;omega)
  simp only[bC] at h2
  simp only[iT,h2,T.eX h1]
 by_cases h0:r.length=0
 ·have hr0:r=[]:=length_eq_zero_iff.1 h0
  subst hr0
  rw[append_nil] at htr ⊢
  refine⟨.imm c.length true (c.map iv),hp,FzZ,?_⟩
  have h4:bq (snap hp bn) [.imm c.length true (c.map iv)]=some ([.imm c.length true (c.map iv)],[]):=rfl
  have h3:(CC LT6).orc 156 [.imm c.length true (c.map iv)]=some [bC (T.aK (T.val c))]:=by
   show bu LT6 156 [.imm c.length true (c.map iv)]=_
   rw[Ei]
   simp only[aJ,jh.acL _ true c rfl]
   exact htr
  exact⟨_,_,by simp[cJ],eJ lQ h4 h3 rfl,rZ.refl hp⟩
 ·have hO:kf iv hp.length (aM hp (c.map iv++r.map iv)) (c++r) (.own hp.length 1 0 (c.length+r.length) false):=by
   refine⟨by simp[aM],.inr ⟨hp.length,[],false,Nat.le_refl _,by simp[aM],by simp,nofun,?_⟩⟩
   rw[bK,if_pos rfl,append_nil,map_append]
  obtain⟨hp'',fp',h1,h2,h3⟩:=tt lQ Ei run dr jh hO _ htr
  have hlen:(aM hp (c.map iv++r.map iv)).length≤hp''.length:=Nat.le_of_eq h3.symm
  refine⟨.own hp.length 1 0 (c.length+r.length) false,aM hp (c.map iv++r.map iv),⟨[],[hp.length],true,false⟩,hp'',fp',?_,h1,?_,?_⟩
  ·simp only[cJ,if_neg h0]
   rw[if_pos ⟨Nat.le_trans (Nat.le_of_lt hl) (by decide),by simp⟩]
  ·exact Nat.le_trans (by simp[aM]) hlen
  ·intro i hi
   rw[h2 i hi,bK,if_neg (by omega)]
def dM:Code:=f121.body.getD .skip
def jc:Code:=((f121.body).bind aC).getD .skip
def Ac:Code:=(aC jc).getD .skip
def ui:Code:=match cw jc with | .seq (.block _ c) _=>c | c=>c
def QF (fr:List PV)(b:PV)(p s:Bool)(x y:List Nat)(q i:PV):Prop :=
 fr.length=164∧nth fr 1=b∧nth fr 12 = .sc (.bool p)∧nth fr 13=bC x∧nth fr 14 = .sc (.bool s)∧nth fr 15=bC y∧nth fr 17=q∧nth fr 19=i
theorem Aa(b:PV)(p s:Bool)(x y r:List Nat)(q i n:PV)(z:Int)(hz:z<0)(hc:au LT6 run 118 [bC r,bC y] (Ab.bz z))(h:QF fr b p s x y q i)(h18:nth fr 18=bC r)(h20:nth fr 20=n) :
  ∃ fr',af (CC LT6) run k Ac ⟨fr,hp,wr⟩=some (.exit 2,⟨fr',hp,wr⟩)∧QF fr' b p s x y q i∧nth fr' 18=bC r∧nth fr' 20=n:=by
 obtain⟨h0,h1,h12,h13,h14,h15,h17,h19⟩:=h
 unfold au at hc
 simp only[Ab.bz] at hc
 have hz2 : ¬ (0≤z):=by omega
 simp[QF,Ac,jc,f121,aL,h0,h1,h12,h13,h14,h15,h17,h18,h19,h20,hc,hz2]
theorem Tb(b:PV)(p s:Bool)(x y r r':List Nat)(q i:PV)(n:Nat)(z:Int)(hz:0≤z)(hn:n<1000000)(hc:au LT6 run 118 [bC r,bC y] (Ab.bz z))(hc2:au LT6 run 119 [bC r,bC y] (bC r'))(h:QF fr b p s x y q i)(h18:nth fr 18=bC r)(h20:nth fr 20=iv n) :
  ∃ fr',af (CC LT6) run k Ac ⟨fr,hp,wr⟩=some (.normal,⟨fr',hp,wr⟩)∧QF fr' b p s x y q i∧nth fr' 18=bC r'∧nth fr' 20=iv (n+1):=by
 obtain⟨h0,h1,h12,h13,h14,h15,h17,h19⟩:=h
 unfold au at hc hc2
 simp only[Ab.bz] at hc
 have hw:=bH n (by omega)
 simp only[iv] at h20 ⊢
 simp[QF,Ac,jc,f121,aL,h0,h1,h12,h13,h14,h15,h17,h18,h19,h20,hc,hc2,hz,hw]
theorem xi (run:ar)(k:Nat)(hp:List Blk)(wr:List Nat)(b:PV)(p s:Bool)(x:List Nat)(q i:PV)(Y:Nat)(hY:0<Y)(hY9:(T.aK Y).length<9000000):∀ (d n R:Nat) (fr:List PV),R<(d+1)*Y→n+d<1000000→(T.aK R).length<9000000→QF fr b p s x (T.aK Y) q i→nth fr 18=bC (T.aK R)→nth fr 20=iv n →
  ∃ fr',cu (af (CC LT6) run k Ac) (d+1) ⟨fr,hp,wr⟩=some (.exit 2,⟨fr',hp,wr⟩)∧QF fr' b p s x (T.aK Y) q i∧nth fr' 18=bC (T.aK (R % Y))∧nth fr' 20=iv (n+R / Y)
 | 0,n,R,fr,hR,hn,hR9,h,h18,h20=>by
  have hlt:R<Y:=by omega
  obtain⟨fr',g1,g2,g3,g4⟩:=Aa run k fr hp wr b p s x (T.aK Y) _ q i _ _ (by unfold ee;rw[if_pos hlt];omega) (xY run R Y (by omega) (by omega)) h h18 h20
  exact⟨fr',bD g1,g2,by rw[g3,Nat.mod_eq_of_lt hlt],by rw[g4,Nat.div_eq_of_lt hlt,Nat.add_zero]⟩
 | d+1,n,R,fr,hR,hn,hR9,h,h18,h20=>by
  by_cases hlt:R<Y
  ·obtain⟨fr',g1,g2,g3,g4⟩:=Aa run k fr hp wr b p s x (T.aK Y) _ q i _ _ (by unfold ee;rw[if_pos hlt];omega) (xY run R Y (by omega) (by omega)) h h18 h20
   exact⟨fr',bD g1,g2,by rw[g3,Nat.mod_eq_of_lt hlt],by rw[g4,Nat.div_eq_of_lt hlt,Nat.add_zero]⟩
  ·have hge:Y≤R:=by omega
   have hz:0≤ee R Y:=by
    unfold ee
    rw[if_neg hlt]
    split <;> omega
   obtain⟨fr1,g1,g2,g3,g4⟩:=Tb run k fr hp wr b p s x (T.aK Y) _ _ q i n _ hz (by omega) (xY run R Y (by omega) (by omega)) (abZ run R Y (by omega) (by omega) hge) h h18 h20
   have hl:(T.aK (R - Y)).length<9000000:=Nat.lt_of_le_of_lt (T.cK (by omega)) hR9
   obtain⟨fr',q1,q2,q3,q4⟩:=xi run k hp wr b p s x q i Y hY hY9 d (n+1) (R - Y) fr1 (by
    rw[Nat.add_mul (d+1) 1,Nat.one_mul] at hR
    omega) (by omega) hl g2 g3 g4
   refine⟨fr',by rw[ct g1];exact q1,q2,?_,?_⟩
   ·rw[q3,Nat.mod_eq_sub_mod hge]
   ·rw[q4,Nat.div_eq_sub_div hY hge]
    congr 1
    omega
theorem SZ:jc = .seq (seq1 jc) (.seq (.block 1 ui) (ah 2 jc)):=rfl
theorem NK:ah 2 ui = .seq (.block 2 (.loop Ac)) (ah 3 ui):=rfl
theorem NJ(b:PV)(p s:Bool)(x y r:List Nat)(q:PV)(h:QF fr b p s x y q (.sc (.int .i64 (-1))))(h18:nth fr 18=bC r) :
  ∃ fr',af (CC L) run k jc ⟨fr,hp,wr⟩=some (.exit 0,⟨fr',hp,wr⟩)∧QF fr' b p s x y q (.sc (.int .i64 (-1)))∧nth fr' 18=bC r:=by
 obtain⟨h0,h1,h12,h13,h14,h15,h17,h19⟩:=h
 simp[QF,jc,f121,h0,h1,h12,h13,h14,h15,h17,h18,h19]
theorem Ta(b:PV)(p s:Bool)(x y r:List Nat)(q:PV)(i:Nat)(h:QF fr b p s x y q (iv i))(h18:nth fr 18=bC r) :
  ∃ fr',af (CC L) run k (seq1 jc) ⟨fr,hp,wr⟩=some (.normal,⟨fr',hp,wr⟩)∧QF fr' b p s x y q (iv i)∧nth fr' 18=bC r:=by
 obtain⟨h0,h1,h12,h13,h14,h15,h17,h19⟩:=h
 simp only[iv] at h19
 simp[QF,jc,f121,seq1,h0,h1,h12,h13,h14,h15,h17,h18,h19,iv]
set_option maxHeartbeats 1000000 in
theorem NL(b:PV)(p s:Bool)(x y r:List Nat)(q:PV)(i:Nat)(hx:T.Dok x)(hr:T.Dok r)(hi:i<x.length)(hr9:r.length<8000000)(h:QF fr b p s x y q (iv i))(h18:nth fr 18=bC r) :
  ∃ fr' hp' wr',aX (CC LT6) run k 2 ui ⟨fr,hp,wr⟩=some ⟨fr',hp',wr'⟩∧QF fr' b p s x y q (iv i)∧nth fr' 18=bC (T.aK (at0 x i+10*T.val r))∧nth fr' 20=iv 0∧rZ hp hp':=by
 obtain⟨h0,h1,h12,h13,h14,h15,h17,h19⟩:=h
 have hda:=fM x i hi
 have hd9:=T.cF hx i
 generalize at0 x i=d at *
 obtain⟨p',hp1,fp,hp2,fp',g1,g2,g3⟩:=FF run false hp [d] r (T.Dok.nil.cons hd9) hr (by simp;omega)
 have e:T.val ([d]++r)=d+10*T.val r:=rfl
 rw[e] at g2
 have hlX:eL TT 24 1 [(0,.sc (.int .i64 (d:Int)))]=some (1,[iv d]):=og d
 have hrd:ew hp 1 (bC r)=some (r.length,r.map iv,[]):=by simp[ew,bC,mS]
 have g1':cJ hp 1 (.imm 1 true [iv d]) r.length (r.map iv)=some (p',hp1,fp):=g1
 have hok:=jh.yR r
 have e1:bC x = .imm x.length false (x.map iv):=rfl
 rw[e1] at h13
 simp only[iv] at h19 ⊢
 simp[QF,e1,ui,jc,f121,cw,aX,aL,bg,bm,partOf,bd,h0,h1,h12,h13,h14,h15,h17,h18,h19,hi,hda,aV,uL,sI,aI,bI,zI,cg,hlX,hrd,hok,iY,g1',g2,g3]
theorem Hv(b:PV)(p s:Bool)(x y r out:List Nat)(q i:PV)(n:Nat)(ho9:out.length<20000000)(h:QF fr b p s x y q i)(h18:nth fr 18=bC r)(h20:nth fr 20=iv n)(hO:dF iv 0 hp out q) :
  ∃ fr' hp' wr' q',af (CC L) run k (ah 3 ui) ⟨fr,hp,wr⟩=some (.normal,⟨fr',hp',wr'⟩)∧QF fr' b p s x y q' i∧nth fr' 18=bC r∧dF iv 0 hp' (out++[n]) q':=by
 obtain⟨h0,h1,h12,h13,h14,h15,h17,h19⟩:=h
 obtain⟨q',hp',fp,g1,g2,-⟩:=hO.app n (by omega)
 have hlX:eL TT 24 1 [(0,.sc (.int .i64 (n:Int)))]=some (1,[iv n]):=og n
 simp only[iv] at h20
 refine (fun ⟨fr',wr',h⟩=>⟨fr',hp',wr',q',h⟩:(∃ fr' wr',_)→_) ?_
 simp[QF,ui,jc,f121,cw,ah,bd,bh,dZ,h0,h1,h12,h13,h14,h15,h17,h18,h19,h20,uL,sI,bI,zI,cg,hlX,lR,iY,g1,g2]
theorem SY(b:PV)(p s:Bool)(x y r:List Nat)(q:PV)(i:Nat)(hi:i<20000000)(h:QF fr b p s x y q (iv i))(h18:nth fr 18=bC r) :
  ∃ fr',af (CC L) run k (ah 2 jc) ⟨fr,hp,wr⟩=some (.normal,⟨fr',hp,wr⟩)∧QF fr' b p s x y q (.sc (.int .i64 ((i:Int) - 1)))∧nth fr' 18=bC r:=by
 obtain⟨h0,h1,h12,h13,h14,h15,h17,h19⟩:=h
 have hw:=cU i (by omega)
 simp only[iv] at h19
 simp[QF,jc,f121,ah,h0,h1,h12,h13,h14,h15,h17,h18,h19,hw]
theorem xh (run:ar)(kk:Nat)(b:PV)(p s:Bool)(x:List Nat)(Y:Nat)(hx:T.Dok x)(hx9:x.length<7000000)(hY:0<Y)(hY9:(T.aK Y).length<7000000)(hkk:11≤kk) :
  ∀ (J R:Nat) (fr:List PV) (hp:List Blk) (wr:List Nat) (out:List Nat) (q:PV),J≤x.length→R<Y→out.length+J≤x.length→T.Dok out→T.val (x.drop J)=Y*T.val out.reverse+R→QF fr b p s x (T.aK Y) q (.sc (.int .i64 ((J:Int) - 1)))→nth fr 18=bC (T.aK R)→dF iv 0 hp out q →
  ∃ (fr':List PV) (hp':List Blk) (wr':List Nat) (out':List Nat) (q':PV),cu (af (CC LT6) run kk jc) (J+1) ⟨fr,hp,wr⟩=some (.exit 0,⟨fr',hp',wr'⟩)∧QF fr' b p s x (T.aK Y) q' (.sc (.int .i64 (-1)))∧nth fr' 18=bC (T.aK (T.val x % Y))∧dF iv 0 hp' out' q'∧T.Dok out'∧T.val out'.reverse=T.val x / Y∧out'.length≤x.length
 | 0,R,fr,hp,wr,out,q,hJ,hR,hol,hod,hv,h,h18,hO=>by
  have h':QF fr b p s x (T.aK Y) q (.sc (.int .i64 (-1))):=h
  obtain⟨fr',g1,g2,g3⟩:=NJ LT6 run kk fr hp wr b p s x _ _ q h' h18
  rw[drop_zero] at hv
  have e1:T.val x % Y=R:=by rw[hv,Nat.mul_add_mod,Nat.mod_eq_of_lt hR]
  have e2:T.val x / Y=T.val out.reverse:=by rw[hv,Nat.mul_add_div hY,Nat.div_eq_of_lt hR,Nat.add_zero]
  exact⟨fr',hp,wr,out,q,bD g1,g2,by rw[g3,e1],hO,hod,e2.symm,by omega⟩
 | i+1,R,fr,hp,wr,out,q,hJ,hR,hol,hod,hv,h,h18,hO=>by
  have hi:i<x.length:=by omega
  have h':QF fr b p s x (T.aK Y) q (iv i):=by
   have e:PV.sc (.int .i64 (((i+1:Nat):Int) - 1))=iv i:=by simp[iv]
   rw[← e];exact h
  have hR9:=T.cK (Nat.le_of_lt hR)
  have hd9:=T.cF hx i
  obtain⟨f1,a1,a2,a3⟩:=Ta LT6 run kk fr hp wr b p s x _ _ q i h' h18
  obtain⟨f2,hp2,wr2,b1,b2,b3,b4,b5⟩:=NL run kk f1 hp wr b p s x _ _ q i hx (T.cb R) hi (by omega) a2 a3
  rw[T.cj] at b3
  have hlt:at0 x i+10*R<(9+1)*Y:=by omega
  have hl9:(T.aK (at0 x i+10*R)).length<9000000:=by
   have h1:=T.cK (show at0 x i+10*R≤10*Y by omega)
   have h2:(T.aK (10*Y)).length≤(T.aK Y).length+1:=T.du (by
    rw[Nat.pow_succ,Nat.mul_comm]
    exact Nat.mul_lt_mul_of_pos_right (T.fL Y) (by omega))
   omega
  obtain⟨f3,c1,c2,c3,c4⟩:=xi run kk hp2 wr2 b p s x q (iv i) Y hY (by omega) 9 0 _ f2 hlt (by omega) hl9 b2 b3 b4
  rw[Nat.zero_add] at c4
  obtain⟨f4,hp4,wr4,q4,d1,d2,d3,d4⟩:=Hv LT6 run kk f3 hp2 wr2 b p s x _ _ out q (iv i) _ (by omega) c2 c3 c4 (dF.grow hO b5)
  obtain⟨f5,e1,e2,e3⟩:=SY LT6 run kk f4 hp4 wr4 b p s x _ _ q4 i (by omega) d2 d3
  have hB:af (CC LT6) run kk ui ⟨f1,hp,wr⟩=some (.normal,⟨f4,hp4,wr4⟩):=by
   rw[aO 2 b1,NK,av (bN (ca c1 (by omega)))]
   exact d1
  have hO1:af (CC LT6) run kk jc ⟨fr,hp,wr⟩=some (.normal,⟨f5,hp4,wr4⟩):=by
   rw[SZ,av a1,av (dH hB)]
   exact e1
  have hq9:(at0 x i+10*R) / Y<10:=Nat.div_lt_of_lt_mul (by omega)
  have hdm:=Nat.div_add_mod (at0 x i+10*R) Y
  obtain⟨fr',hp',wr',out',q',r1,r2⟩:=xh run kk b p s x Y hx hx9 hY hY9 hkk i ((at0 x i+10*R) % Y) f5 hp4 wr4 (out++[(at0 x i+10*R) / Y]) q4 (by omega) (Nat.mod_lt _ hY) (by simp;omega) (hod.append (T.Dok.nil.cons hq9)) (by
   rw[T.iM x i hi,hv,reverse_append]
   show at0 x i+10*(Y*T.val out.reverse+R)=Y*((at0 x i+10*R) / Y+10*T.val out.reverse)+(at0 x i+10*R) % Y
   rw[Nat.mul_add Y,← Nat.mul_assoc Y 10,Nat.mul_comm Y 10,Nat.mul_assoc 10,Nat.mul_add 10]
   omega) e2 e3 d4
  exact⟨fr',hp',wr',out',q',by rw[ct hO1];exact r1,r2⟩
def qW:Code:=(aC (ah 10 dM)).getD .skip
def sN:Code:=match cw qW with | .seq (.block _ c) _=>c | c=>c
theorem ZP:((Region.before (fx sN))[21]?.getD 0).testBit 15=true:=by kernel_rfl
theorem ZO:((Region.before (fx sN))[21]?.getD 0).testBit 19=true:=by kernel_rfl
theorem ZN:((Region.before (fx sN))[23]?.getD 0).testBit 15=true:=by kernel_rfl
theorem ZM:((Region.before (fx sN))[23]?.getD 0).testBit 19=true:=by kernel_rfl
theorem ZL:((Region.before (fx sN))[23]?.getD 0).testBit 21=true:=by kernel_rfl
def SF (fr:List PV)(b:PV)(p s:Bool)(r:List Nat)(q:PV):Prop :=
 fr.length=164∧nth fr 1=b∧nth fr 12 = .sc (.bool p)∧nth fr 14 = .sc (.bool s)∧nth fr 18=bC r∧nth fr 17=q
theorem z8(b:PV)(p s:Bool)(r:List Nat)(q:PV)(n i:Nat)(hn9:n<20000000)(hq:dn q=some n)(hi:n / 2≤i)(h:SF fr b p s r q)(h21:nth fr 21=iv i) :
  ∃ fr',af (CC L) run k qW ⟨fr,hp,wr⟩=some (.exit 4,⟨fr',hp,wr⟩)∧SF fr' b p s r q:=by
 obtain⟨h0,h1,h12,h14,h18,h17⟩:=h
 obtain⟨m,hm⟩:∃ m,m=n / 2:=⟨_,rfl⟩
 rw[← hm] at hi
 have hd:((n:Int) / 2)=(m:Int):=by omega
 have hm9:m<20000000:=by rw[hm];exact Nat.lt_of_le_of_lt (Nat.div_le_self _ _) hn9
 clear hm
 have hw:=cG .i64 m (hiI (by omega))
 have hlt2 : ¬ (i<m):=by omega
 simp only[iv] at h21
 simp[SF,qW,dM,f121,ah,bO,bd,h0,h1,h12,h14,h18,h17,h21,uL,hq,hd,hw,hlt2]
set_option maxHeartbeats 8000000 in
theorem DL(b:PV)(p s:Bool)(r l z:List Nat)(id n i j:Nat)(hn9:n<20000000)(hn:l.length=n)(hb:aY hp id=some ⟨.live,(l++z).map iv⟩)(hi:i<n / 2)(hj:n=i+j+1)(h:SF fr b p s r (.own id 1 0 n false))(h21:nth fr 21=iv i) :
  ∃ fr' wr',af (CC L) run k qW ⟨fr,hp,wr⟩=some (.normal,⟨fr',bZ (bZ hp id ⟨.live,((l++z).set i (at0 l j)).map iv⟩) id ⟨.live,(((l++z).set i (at0 l j)).set j (at0 l i)).map iv⟩,wr'⟩)∧SF fr' b p s r (.own id 1 0 n false)∧nth fr' 21=iv (i+1):=by
 obtain⟨h0,h1,h12,h14,h18,h17⟩:=h
 obtain⟨m,hm⟩:∃ m,m=n / 2:=⟨_,rfl⟩
 have hin:i<n:=by omega
 have hjn:j<n:=by omega
 have hij:i≠j:=by omega
 rw[← hm] at hi
 have hm9:m<20000000:=by rw[hm];exact Nat.lt_of_le_of_lt (Nat.div_le_self _ _) hn9
 have hw:=cG .i64 m (hiI (Nat.le_trans (Nat.le_of_lt hm9) (by decide)))
 have hw1:=cU n (Nat.lt_trans hn9 (by decide))
 have hw2:bE .i64 ((n:Int) - 1 - (i:Int))=(j:Int):=by rw[show ((n:Int) - 1 - (i:Int))=(j:Int) by omega];exact cG .i64 j (hiI (Nat.le_trans (Nat.le_of_lt (Nat.lt_trans hjn hn9)) (by decide)))
 have hwi:=bH i (Nat.lt_trans (Nat.lt_trans hin hn9) (by decide))
 have hd:((n:Int) / 2)=(m:Int):=by rw[hm];rfl
 clear hm
 have hil:i<(l++z).length:=by simp;omega
 have hjl:j<(l++z).length:=by simp;omega
 have ha:at0 (l++z) i=at0 l i:=by unfold at0;rw[getElem?_append_left (by omega)]
 have hb':at0 (l++z) j=at0 l j:=by unfold at0;rw[getElem?_append_left (by omega)]
 have hd1:=fM (l++z) i hil
 have hd2:=fM (l++z) j hjl
 rw[ha] at hd1
 rw[hb'] at hd2
 have hov:=kA (e:=iv) (l++z) i (at0 l j) hil
 have hov2:=kA (e:=iv) ((l++z).set i (at0 l j)) j (at0 l i) (by rw[length_set];exact hjl)
 have hsb:aY (bZ hp id ⟨.live,((l++z).set i (at0 l j)).map iv⟩) id=some ⟨.live,((l++z).set i (at0 l j)).map iv⟩:=by rw[cT hb,if_pos rfl]
 generalize at0 l i=a at *
 generalize at0 l j=c at *
 generalize l++z=lz at *
 have hb1:=ZP
 have hb2:=ZO
 have hb3:=ZN
 have hb4:=ZM
 have hb5:=ZL
 simp[-Nat.testBit_zero,sN,qW,dM,f121,ah,cw,fx] at hb1 hb2 hb3 hb4 hb5
 simp only[iv] at h21 ⊢
 simp[-Nat.testBit_zero,-map_set,hb1,hb2,hb3,hb4,hb5,SF,qW,dM,f121,ah,bO,bg,bm,partOf,bd,gW,bh,rR,dZ,h0,h1,h12,h14,h18,h17,h21,uL,sI,aI,aV,hb,hsb,hi,hin,hjn,hd,hw,hw1,hw2,hwi,hd1,hd2,hov,hov2,qN a,qN c,number,FP.free,cH,FP.apart]
theorem mZ (l:List Nat)(i y m:Nat)(h:i<l.length):at0 (l.set i y) m=if m=i then y else at0 l m:=by
 by_cases e:m=i
 ·subst e;rw[if_pos rfl,dm (by simpa using h)];simp
 ·rw[if_neg e,gJ (fun h=>e h.symm)]
theorem BW {a b:List Nat}(hl:a.length=b.length)(h:∀ m,m<a.length→at0 a m=at0 b m):a=b:=by
 refine ext_getElem hl fun m h1 h2 => ?_
 have:=h m h1
 rwa [dm h1,dm h2] at this
theorem Lz (l:List Nat)(m:Nat)(h:m<l.length):at0 l.reverse m=at0 l (l.length - 1 - m):=by
 rw[dm (by simpa using h),dm (by omega),getElem_reverse]
theorem xg (L:Lst)(run:ar)(k:Nat)(b:PV)(p s:Bool)(r l z:List Nat)(id n:Nat)(hn9:n<20000000)(hn:l.length=n):∀ (d i:Nat) (fr:List PV) (hp:List Blk) (wr cur:List Nat),i+d=n / 2→cur.length=n→id<hp.length→aY hp id=some ⟨.live,(cur++z).map iv⟩ →
  (∀ m,m<n→at0 cur m=if m<i∨n - i≤m then at0 l (n - 1 - m) else at0 l m)→SF fr b p s r (.own id 1 0 n false)→nth fr 21=iv i →
  ∃ (fr':List PV) (hp':List Blk) (wr':List Nat),cu (af (CC L) run k qW) (d+1) ⟨fr,hp,wr⟩=some (.exit 4,⟨fr',hp',wr'⟩)∧SF fr' b p s r (.own id 1 0 n false)∧dF iv 0 hp' l.reverse (.own id 1 0 n false)
 | 0,i,fr,hp,wr,cur,hd,hc,hid,hb,hI,h,h21=>by
  obtain⟨fr',g1,g2⟩:=z8 L run k fr hp wr b p s r _ n i hn9 rfl (by omega) h h21
  have e:cur=l.reverse:=BW (by simp[hc,hn]) fun m hm=>by
   rw[hc] at hm
   rw[hI m hm,Lz l m (by omega),hn]
   by_cases h1:m<i∨n - i≤m
   ·rw[if_pos h1]
   ·rw[if_neg h1]
    congr 1
    omega
  refine⟨fr',hp,wr,bD g1,g2,Nat.zero_le _,.inr ⟨id,z,Nat.zero_le _,hid,by simp[hn],?_⟩⟩
  rw[← e];exact hb
 | d+1,i,fr,hp,wr,cur,hd,hc,hid,hb,hI,h,h21=>by
  obtain⟨j,hj⟩:∃ j,n=i+j+1:=⟨n - i - 1,by omega⟩
  have hij:i<j:=by omega
  obtain⟨fr1,wr1,g1,g2,g3⟩:=DL L run k fr hp wr b p s r cur z id n i j hn9 hc hb (by omega) hj h h21
  have e1:((cur++z).set i (at0 cur j)).set j (at0 cur i)=((cur.set i (at0 cur j)).set j (at0 cur i))++z:=by
   rw[set_append_left _ _ (by omega),set_append_left _ _ (by rw[length_set];omega)]
  rw[e1] at g1
  have hb1:aY (bZ (bZ hp id ⟨.live,((cur++z).set i (at0 cur j)).map iv⟩) id ⟨.live,(((cur.set i (at0 cur j)).set j (at0 cur i))++z).map iv⟩) id=some ⟨.live,(((cur.set i (at0 cur j)).set j (at0 cur i))++z).map iv⟩:=by
   rw[cT (b0:=⟨.live,((cur++z).set i (at0 cur j)).map iv⟩) (by rw[cT hb,if_pos rfl]),if_pos rfl]
  have hai:=hI i (by omega)
  have haj:=hI j (by omega)
  rw[if_neg (by omega)] at hai haj
  obtain⟨fr',hp',wr',q1,q2⟩:=xg L run k b p s r l z id n hn9 hn d (i+1) fr1 _ wr1 ((cur.set i (at0 cur j)).set j (at0 cur i)) (by omega) (by simp[hc]) (by rw[bL,bL];exact hid) hb1
   (fun m hm=>by
    rw[mZ _ _ _ _ (by rw[length_set];omega),mZ _ _ _ _ (by omega)]
    by_cases e2:m=j
    ·rw[if_pos e2,hai,if_pos (by omega)]
     congr 1
     omega
    ·rw[if_neg e2]
     by_cases e3:m=i
     ·rw[if_pos e3,haj,if_pos (by omega)]
      congr 1
      omega
     ·rw[if_neg e3,hI m hm]
      by_cases e4:m<i∨n - i≤m
      ·rw[if_pos e4,if_pos (by omega)]
      ·rw[if_neg e4,if_neg (by omega)]) g2 g3
  exact⟨fr',hp',wr',by rw[ct g1];exact q1,q2⟩
theorem NI (L:Lst)(run:ar)(k:Nat)(b:PV)(p s:Bool)(r l:List Nat)(q:PV)(hn9:l.length<20000000)(fr:List PV)(hp:List Blk)(wr:List Nat)(hO:dF iv 0 hp l q)(h:SF fr b p s r q)(h21:nth fr 21=iv 0) :
  ∃ (fr':List PV) (hp':List Blk) (wr':List Nat),cu (af (CC L) run k qW) (l.length / 2+1) ⟨fr,hp,wr⟩=some (.exit 4,⟨fr',hp',wr'⟩)∧SF fr' b p s r q∧dF iv 0 hp' l.reverse q:=by
 obtain⟨hb,hO⟩:=hO
 rcases hO with ⟨rfl,rfl⟩| ⟨id,z,h1,h2,rfl,h3⟩
 ·obtain⟨fr',g1,g2⟩:=z8 L run k fr hp wr b p s r _ 0 0 (by omega) rfl (by omega) h h21
  exact⟨fr',hp,wr,bD g1,g2,dF.nil hb⟩
 ·obtain⟨fr',hp',wr',g1,g2,g3⟩:=xg L run k b p s r l z id l.length hn9 rfl (l.length / 2) 0 fr hp wr l (by omega) rfl h2 h3 (fun m hm=>by rw[if_neg (by omega)]) h h21
  exact⟨fr',hp',wr',g1,g2,g3⟩
end Go.Proofs.YtjdmodeenbdfpaaGreat
end
