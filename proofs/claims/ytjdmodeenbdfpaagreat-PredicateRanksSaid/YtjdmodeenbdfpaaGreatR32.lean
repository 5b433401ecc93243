/- An abstract interpreter over the model's code and its soundness, part 32 of the proof; each lemma states its own conditions. -/
import Derived.Test.YtjdmodeenbdfpaaGreatR29
import Derived.Test.YtjdmodeenbdfpaaGreatR31
set_option linter.unusedSimpArgs false
set_option linter.unusedVariables false
namespace Go.Ab
theorem lk {x y q r:Int}(hy:0<y)(h:x=y*q+r)(h0:0≤r)(h1:r<y):x / y=q∧x % y=r :=
 (Int.ediv_emod_unique hy).2 ⟨by rw[h];exact Int.add_comm _ _,h0,h1⟩
theorem ade {x y:Int}(hy:0<y)(hx:x<0)(h:x.natAbs % y.natAbs≠0):x / y = -((x.natAbs / y.natAbs:Nat):Int) - 1∧x % y = -((x.natAbs % y.natAbs:Nat):Int)+y:=by
 have h1:=Nat.div_add_mod x.natAbs y.natAbs
 have h2:=Nat.mod_lt x.natAbs (show 0<y.natAbs by omega)
 generalize hq:x.natAbs / y.natAbs=q at *
 generalize hr:x.natAbs % y.natAbs=r at *
 have h3:(x.natAbs:Int)=(y.natAbs:Int)*(q:Int)+(r:Int):=by rw[← h1];simp
 have hy':(y.natAbs:Int)=y:=by omega
 rw[hy'] at h3
 refine lk hy ?_ (by omega) (by omega)
 rw[Int.mul_sub,Int.mul_neg,Int.mul_one]
 omega
theorem Zq {x y:Int}(hy:0<y)(hx:x<0)(h:x.natAbs % y.natAbs=0):x / y = -((x.natAbs / y.natAbs:Nat):Int)∧x % y=0:=by
 have h1:=Nat.div_add_mod x.natAbs y.natAbs
 rw[h] at h1
 generalize hq:x.natAbs / y.natAbs=q at *
 have h3:(x.natAbs:Int)=(y.natAbs:Int)*(q:Int):=by rw[← h1];simp
 have hy':(y.natAbs:Int)=y:=by omega
 rw[hy'] at h3
 refine lk hy ?_ (by omega) (by omega)
 rw[Int.mul_neg]
 omega
theorem adb {x y:Int}(hy:0<y)(hx:0≤x):x / y=((x.natAbs / y.natAbs:Nat):Int)∧x % y=((x.natAbs % y.natAbs:Nat):Int):=by
 have h1:=Nat.div_add_mod x.natAbs y.natAbs
 have h2:=Nat.mod_lt x.natAbs (show 0<y.natAbs by omega)
 generalize hq:x.natAbs / y.natAbs=q at *
 generalize hr:x.natAbs % y.natAbs=r at *
 have h3:(x.natAbs:Int)=(y.natAbs:Int)*(q:Int)+(r:Int):=by rw[← h1];simp
 have hy':(y.natAbs:Int)=y:=by omega
 rw[hy'] at h3
 exact lk hy (by omega) (by omega) (by omega)
def fC:List Nat→Option Nat
 | []=>none
 | a::l=>bif a.beq 47 then some 0 else (fC l).map (· + 1)
def qtx (n d:Int):List Nat:=if d=1 then ztx n else ztx n++47::ztx d
theorem GR {l:List Nat}(h:∀ x ∈ l,x≠47):fC l=none:=by
 induction l with
 | nil=>rfl
 | cons a l ih =>
  have ha:a.beq 47=false:=by
   cases e:a.beq 47 with
   | false=>rfl
   | true=>exact absurd (Nat.eq_of_beq_eq_true e) (h a (by simp))
  rw[fC,ha,cond_false,ih fun x hx=>h x (by simp[hx])]
  rfl
theorem ML {l:List Nat}(h:∀ x ∈ l,x≠47)(m:List Nat):fC (l++47::m)=some l.length:=by
 induction l with
 | nil=>rfl
 | cons a l ih =>
  have ha:a.beq 47=false:=by
   cases e:a.beq 47 with
   | false=>rfl
   | true=>exact absurd (Nat.eq_of_beq_eq_true e) (h a (by simp))
  rw[List.cons_append,fC,ha,cond_false,ih fun x hx=>h x (by simp[hx])]
  rfl
theorem NR (z:Int):∀ x ∈ ztx z,x≠47:=by
 intro x hx
 rw[ub,List.mem_append] at hx
 rcases hx with hx | hx
 ·cases h:bx z <;> rw[h] at hx <;> simp at hx
  omega
 ·have:=dH.1 (fJ (qi _) hx)
  omega
theorem Vo:ztx 1=[49]:=by decide
theorem QL (n d:Int):Bok (qtx n d):=by
 unfold qtx
 split
 ·exact kr n
 ·exact (kr n).append ((kr d).cons (by omega))
theorem MK (n d:Int):fC (qtx n d)=if d=1 then none else some (ztx n).length:=by
 unfold qtx
 split
 ·exact GR (NR n)
 ·exact ML (NR n) _
end Go.Ab
namespace Go.Proofs.YtjdmodeenbdfpaaGreat
open Go Go.Ab
theorem qH:base.F.get 65=some Tryz.f65:=by kernel_rfl
theorem DY:base.F.get 48=some Tryz.f48:=by kernel_rfl
theorem HD:base.F.get 122=some Tryz.f122:=by kernel_rfl
theorem tm:base.F.get 24=some Tryz.f24:=by kernel_rfl
theorem ot:base.F.get 64=some Tryz.f64:=by kernel_rfl
theorem AV:base.F.get 23=some Tryz.f23:=by kernel_rfl
theorem xd:base.F.get 67=some Tryz.f67:=by kernel_rfl
theorem lG:base.shared 65=false:=by kernel_rfl
theorem J0:base.shared 48=false:=by kernel_rfl
theorem VN:base.shared 64=false:=by kernel_rfl
theorem EO:base.shared 23=false:=by kernel_rfl
theorem Ow:base.shared 67=false:=by kernel_rfl
noncomputable def LT5:Lst:=[(120,mR),(66,iw),(100,nZ)]
theorem adZ:dL base.P LT5:=⟨vr,mQ,sT,trivial⟩
theorem XL:bw LT5 120=fun a=>mR (aK a):=rfl
theorem Rm:bw LT5 66=fun a=>iw (aK a):=rfl
theorem Zm.neg {z:Int}(h:Zm z)(h2:Ab.eh z<fE):Zm (-z):=by
 unfold Zm
 rw[fZ,A0]
 cases bx (-z) <;> simp <;> omega
theorem FU (L:Lst)(run:ar)(k:Nat)(s t u r:ByteArray)(g1:aA L run 120 [.sc (.string t)] (.sc (.string u)))(g2:aA L run 66 [.sc (.string s),.sc (.string u)] (.sc (.string r))) :
  ∃ st,af (CC L) run k (Tryz.f157.body.getD .skip) ⟨entry 9 [.sc (.string s),.sc (.string t)],[],[]⟩=some (.ret,st)∧aZ TT st.fr st.hp Tryz.f157.results.toList=some [.sc (.string r)]:=by
 obtain⟨e1,e2,e3⟩:=cC 7 (.sc (.string s)) (.sc (.string t))
 generalize entry 9 [.sc (.string s),.sc (.string t)]=fr0 at *
 unfold aA at *
 simp[Tryz.f157,e1,e2,e3,af,aJ,ao,aq,aH,ag,ai,aQ,aj,an,aF,aC,FP.none,aw,aa,ae,ab,g1,g2,aZ]
def vt:List PV→Option (List PV)
 | [p,q]=>match fT p,fT q with
  | some x,some y=>bif (eh y).blt fE then some [zs (x - y)] else none
  | _,_=>none
 | _=>none
theorem FR:Ab.Spec base.P 157 vt:=Ab.Spec.bQ (C:=CC LT5) (cV adZ) fun args rs h=>by
 unfold vt at h
 split at h
 ·split at h
  ·rename_i x y ex ey
   obtain⟨rfl,hx⟩:=dj ex
   obtain⟨rfl,hy⟩:=dj ey
   cases hb:(eh y).blt fE with
   | false=>rw[hb] at h;cases h
   | true =>
    rw[hb] at h
    simp only[cond_true,Option.some.injEq] at h
    subst h
    rw[Nat.blt_eq] at hb
    have hn:=Zm.neg hy hb
    have g1:aA LT5 (runK (CC LT5) 1) 120 [zs y] (zs (-y)):=fun dr hp=>bu Bz XL _ dr hp _ [zs (-y)] rfl rfl (by simp only[mR,cT y hy])
    have g2:aA LT5 (runK (CC LT5) 1) 66 [zs x,zs (-y)] (zs (x + -y)):=fun dr hp=>bu qP Rm _ dr hp _ [zs (x + -y)] rfl rfl (by simp only[iw,cT x hx,cT (-y) hn])
    obtain⟨st,x1,x2⟩:=FU LT5 (runK (CC LT5) 1) 1 _ _ _ _ g1 g2
    exact⟨2,_,_,_,_,_,aX AX rfl x1 x2,rfl,Wk.refl rfl,trivial⟩
  ·cases h
 ·cases h
theorem afh (a:Nat):((a:Int) == 47)=a.beq 47:=by
 cases h:a.beq 47 with
 | true=>rw[Nat.eq_of_beq_eq_true h];rfl
 | false =>
  rw[beq_eq_false_iff_ne]
  intro e
  have:a=47:=by omega
  subst this;cases h
theorem JN (l:List Nat)(k:Nat)(hp:List Blk)(h:k≤l.length):dt TT hp 27 (.sc (.string (tx l))) (some (.sc (.int .i64 (k:Int)))) none none=some (.sc (.string (tx (l.drop k)))):=by
 simp only[dt,uAR,dT,dJ,bnd,fk,bm]
 simp[tx,ff,h]
 rw[List.take_of_length_le (by simp)]
theorem JO (l:List Nat)(k:Nat)(hp:List Blk)(h:k≤l.length):dt TT hp 27 (.sc (.string (tx l))) none (some (.sc (.int .i64 (k:Int)))) none=some (.sc (.string (tx (l.take k)))):=by
 simp only[dt,uAR,dT,dJ,bnd,fk,bm]
 simp[tx,ff,h]
noncomputable def pC:Code:=Tryz.f65.body.getD .skip
noncomputable def pD:Code:=((Tryz.f65.body).bind az).getD .skip
theorem Py (L:Lst)(run:ar)(k:Nat)(fr:List PV)(l:List Nat)(h24:fr.length=24)(h0:nth fr 0 = .sc (.string (tx l)))(h5:nth fr 5=iv l.length) :
  ∃ fr',af (CC L) run k pD ⟨fr,[],[]⟩=some (.exit 0,⟨fr',[],[]⟩)∧fr'.length=24∧nth fr' 0 = .sc (.string (tx l)):=by
 simp only[iv] at h5
 simp[pD,Tryz.f65,az,af,aJ,ao,aq,aH,ag,ai,aj,an,aF,aC,FP.none,bd,au,bj,bM,aa,ae,ab,bh,dJ,h24,h0,h5,uAR]
set_option maxHeartbeats 1000000 in
theorem Wy (L:Lst)(run:ar)(k:Nat)(fr:List PV)(l:List Nat)(i:Nat)(hl:Bok l)(hi:i<l.length)(hi9:i<20000000)(hd:(at0 l i).beq 47=false)(h24:fr.length=24)(h0:nth fr 0 = .sc (.string (tx l)))(h5:nth fr 5=iv i) :
  ∃ fr',af (CC L) run k pD ⟨fr,[],[]⟩=some (.normal,⟨fr',[],[]⟩)∧fr'.length=24∧nth fr' 0 = .sc (.string (tx l))∧nth fr' 5=iv (i+1):=by
 have hx:=eX uAR hl .i64 i hi
 have hb:=afh (at0 l i)
 rw[hd] at hb
 have hw:=bE i (by omega)
 generalize at0 l i=b at *
 simp only[iv] at h5 ⊢
 simp[pD,Tryz.f65,az,af,aJ,ao,aq,aH,ag,ai,aj,an,aF,aC,FP.none,bd,au,bj,aw,bM,aa,ae,ab,bh,dJ,h24,h0,h5,uAR,hi,hx,hb,hw]
set_option maxHeartbeats 1000000 in
theorem Pw (L:Lst)(run:ar)(k:Nat)(fr:List PV)(l:List Nat)(i:Nat)(hl:Bok l)(hi:i<l.length)(hi9:i<20000000)(hd:(at0 l i).beq 47=true)(h24:fr.length=24)(h0:nth fr 0 = .sc (.string (tx l)))(h5:nth fr 5=iv i) :
  ∃ fr',af (CC L) run k pD ⟨fr,[],[]⟩=some (.ret,⟨fr',[],[]⟩)∧nth fr' 2 = .sc (.string (tx (l.take i)))∧nth fr' 3 = .sc (.string (tx (l.drop (i+1))))∧nth fr' 4 = .sc (.bool true):=by
 have hx:=eX uAR hl .i64 i hi
 have hb:=afh (at0 l i)
 rw[hd] at hb
 have hw:=bE i (by omega)
 have h1:=JO l i [] (by omega)
 have h2:dt TT [] 27 (.sc (.string (tx l))) (some (.sc (.int .i64 ((i:Int)+1)))) none none=some (.sc (.string (tx (l.drop (i+1))))):=JN l (i+1) [] (by omega)
 generalize at0 l i=b at *
 simp only[iv] at h5
 simp[pD,Tryz.f65,az,af,aJ,ao,aq,aH,ag,ai,aj,an,aF,aC,FP.none,bd,au,bj,aw,bM,aa,ae,ab,bh,dJ,h24,h0,h5,uAR,hi,hx,hb,hw,h1,h2,number,FP.free]
theorem yc (L:Lst)(run:ar)(k:Nat)(l:List Nat)(hl:Bok l)(h9:l.length<20000000):∀ (n i:Nat) (fr:List PV),i+n=l.length→fr.length=24→nth fr 0 = .sc (.string (tx l))→nth fr 5=iv i →
  (fC (l.drop i)=none∧∃ fr',cl (af (CC L) run k pD) (n+1) ⟨fr,[],[]⟩=some (.exit 0,⟨fr',[],[]⟩)∧fr'.length=24∧nth fr' 0 = .sc (.string (tx l))) ∨
  (∃ j fr',fC (l.drop i)=some j∧cl (af (CC L) run k pD) (n+1) ⟨fr,[],[]⟩=some (.ret,⟨fr',[],[]⟩)∧nth fr' 2 = .sc (.string (tx (l.take (i+j))))∧nth fr' 3 = .sc (.string (tx (l.drop (i+j+1))))∧nth fr' 4 = .sc (.bool true))
 | 0,i,fr,hi,h24,h0,h5=>by
  have:i=l.length:=by omega
  subst this
  obtain⟨fr',g1,g2,g3⟩:=Py L run k fr l h24 h0 h5
  exact .inl ⟨by rw[List.drop_length];rfl,fr',bD g1,g2,g3⟩
 | n+1,i,fr,hi,h24,h0,h5=>by
  have hil:i<l.length:=by omega
  have hdr:fC (l.drop i)=bif (at0 l i).beq 47 then some 0 else (fC (l.drop (i+1))).map (· + 1):=by rw[List.drop_eq_getElem_cons hil,de hil];rfl
  cases hd:(at0 l i).beq 47 with
  | true =>
   obtain⟨fr1,g1,g2,g3,g4⟩:=Pw L run k fr l i hl hil (by omega) hd h24 h0 h5
   exact .inr ⟨0,fr1,by rw[hdr,hd];rfl,eF g1,g2,g3,g4⟩
  | false =>
   obtain⟨fr1,g1,g2,g3,g4⟩:=Wy L run k fr l i hl hil (by omega) hd h24 h0 h5
   rw[hdr,hd,cond_false,ch g1]
   rcases yc L run k l hl h9 n (i+1) fr1 (by omega) g2 g3 g4 with ⟨q1,q2⟩| ⟨j,fr',q1,q2,q3,q4,q5⟩
   ·exact .inl ⟨by rw[q1];rfl,q2⟩
   ·refine .inr ⟨j+1,fr',by rw[q1];rfl,q2,?_,?_,q5⟩
    ·rw[q3,show i+1+j=i+(j+1) by omega]
    ·rw[q4,show i+1+j+1=i+(j+1)+1 by omega]
noncomputable def Pz:Code:=seq1 (seq1 (ah 1 pC))
theorem uX:ah 1 pC = .seq (.seq Pz (.block 0 (.loop pD))) (ah 2 pC):=rfl
theorem Px (L:Lst)(run:ar)(k:Nat)(s:ByteArray) :
  ∃ fr fr',aY (CC L) run k 1 pC ⟨entry 24 [.sc (.string s)],[],[]⟩=some ⟨fr,[],[]⟩∧af (CC L) run k Pz ⟨fr,[],[]⟩=some (.normal,⟨fr',[],[]⟩)∧fr'.length=24∧nth fr' 0 = .sc (.string s)∧nth fr' 5=iv 0:=by
 obtain⟨e1,e2⟩:=cW 23 (.sc (.string s))
 generalize entry 24 [.sc (.string s)]=fr0 at *
 simp[Pz,pC,Tryz.f65,ah,seq1,aY,e1,e2,af,aJ,ao,aq,aH,ag,ai,aj,an,aF,aC,FP.none,aw,aa,ae,ab,iv]
theorem KY (L:Lst)(run:ar)(k:Nat)(fr:List PV)(s:ByteArray)(h24:fr.length=24)(h0:nth fr 0 = .sc (.string s)) :
  ∃ st,af (CC L) run k (ah 2 pC) ⟨fr,[],[]⟩=some (.ret,st)∧aZ TT st.fr st.hp Tryz.f65.results.toList=some [.sc (.string s),.sc (.string (tx [49])),.sc (.bool false)]:=by
 have:(tx [49])={ data:=#[49] } := rfl
 rw[this]
 simp[pC,ah,Tryz.f65,af,aJ,ao,aq,aH,ag,ai,aj,an,aF,aC,FP.none,aw,aa,ae,ab,h24,h0,aZ]
def kW:List PV→Option (List PV)
 | [.sc (.string s)]=>bif (bys s).length.blt 20000000 then (match fC (bys s) with
  | some j=>some [.sc (.string (tx ((bys s).take j))),.sc (.string (tx ((bys s).drop (j+1)))),.sc (.bool true)]
  | none=>some [.sc (.string s),.sc (.string (tx [49])),.sc (.bool false)]) else none
 | _=>none
theorem nX:Ab.Spec base.P 65 kW:=Ab.Spec.bQ (C:=CC []) (cV trivial) fun args rs h=>by
 unfold kW at h
 split at h
 ·rename_i s
  cases hb:(bys s).length.blt 20000000 with
  | false=>rw[hb] at h;cases h
  | true =>
   rw[hb] at h
   simp only[cond_true] at h
   rw[Nat.blt_eq] at hb
   have hok:=mh s
   obtain⟨f1,f2,a1,a2,a3,a4,a5⟩:=Px [] (runK (CC []) 20000000) 20000000 s
   have a4':nth f2 0 = .sc (.string (tx (bys s))):=by rw[a4,il]
   rcases yc [] (runK (CC []) 20000000) 20000000 (bys s) hok hb (bys s).length 0 f2 (by omega) a3 a4' a5 with ⟨q1,f3,q2,q3,q4⟩| ⟨j,f3,q1,q2,q3,q4,q5⟩
   ·rw[List.drop_zero] at q1
    rw[q1] at h
    simp only[Option.some.injEq] at h
    subst h
    rw[il] at q4
    obtain⟨st,x1,x2⟩:=KY [] (runK (CC []) 20000000) 20000000 f3 s q3 q4
    have hx:af (CC []) (runK (CC []) 20000000) 20000000 pC ⟨entry 24 [.sc (.string s)],[],[]⟩=some (.ret,st):=by
     rw[aP 1 a1,uX,av ((av a2).trans (bH (ca q2 (by omega))))]
     exact x1
    exact⟨20000001,_,_,_,_,_,aX qH rfl hx x2,rfl,Wk.refl rfl,Wk.refl rfl,Wk.refl rfl,trivial⟩
   ·rw[List.drop_zero] at q1
    rw[Nat.zero_add] at q3 q4
    rw[q1] at h
    simp only[Option.some.injEq] at h
    subst h
    have hx:af (CC []) (runK (CC []) 20000000) 20000000 pC ⟨entry 24 [.sc (.string s)],[],[]⟩=some (.ret,⟨f3,[],[]⟩):=by
     rw[aP 1 a1,uX]
     exact cB ((av a2).trans (da (ca q2 (by omega))))
    have x2:aZ TT f3 [] Tryz.f65.results.toList=some [.sc (.string (tx ((bys s).take j))),.sc (.string (tx ((bys s).drop (j+1)))),.sc (.bool true)]:=by
     simp[Tryz.f65,aZ,q3,q4,q5]
    exact⟨20000001,_,_,_,_,_,aX qH rfl hx x2,rfl,Wk.refl rfl,Wk.refl rfl,Wk.refl rfl,trivial⟩
 ·cases h
noncomputable def LT6:Lst:=[(156,iu),(118,ke),(119,mS),(115,sQ),(116,mr),(113,sJ),(114,sO),(66,iw),(157,vt)]
theorem adY:dL base.P LT6:=⟨sz,sG,vu,yw,qZ,ym,yr,mQ,FR,trivial⟩
theorem Cz:bw LT6 156=fun a=>iu (aK a):=rfl
theorem Rk:bw LT6 118=fun a=>ke (aK a):=rfl
theorem XK:bw LT6 119=fun a=>mS (aK a):=rfl
theorem XJ:bw LT6 115=fun a=>sQ (aK a):=rfl
theorem CB:bw LT6 116=fun a=>mr (aK a):=rfl
theorem LY:bw LT6 113=fun a=>sJ (aK a):=rfl
theorem XG:bw LT6 114=fun a=>sO (aK a):=rfl
theorem Rl:bw LT6 66=fun a=>iw (aK a):=rfl
theorem XI:bw LT6 157=fun a=>vt (aK a):=rfl
theorem wq (run:ar)(x y:Nat)(hx:(T.aG x).length<10000000)(hy:(T.aG y).length<10000000):aA LT6 run 118 [bz (T.aG x),bz (T.aG y)] (Ab.bJ (dQ x y)):=fun dr hp =>
 bu xV Rk run dr hp _ [Ab.bJ (dQ x y)] rfl (nD _ _) (by simp only[ke,dP (T.bU x) hx,dP (T.bU y) hy,pG])
theorem Zg (run:ar)(x y:Nat)(hx:(T.aG x).length<10000000)(hy:(T.aG y).length<10000000)(h:y≤x):aA LT6 run 119 [bz (T.aG x),bz (T.aG y)] (bz (T.aG (x - y))):=fun dr hp =>
 bu xW XK run dr hp _ [bz (T.aG (x - y))] rfl (nD _ _) (by
  have h1:(T.aG y).length.ble (T.aG x).length=true:=by rw[Nat.ble_eq];exact T.cH h
  have h2:y.ble x=true:=by rw[Nat.ble_eq];exact h
  simp only[mS,dP (T.bU x) hx,dP (T.bU y) hy,T.bZ,h1,h2,Bool.and_self,cond_true])
def qG (hp hp':List Blk):Prop:=hp.length≤hp'.length∧∀ i,i<hp.length→aV hp' i=aV hp i
theorem qG.refl (hp:List Blk):qG hp hp:=⟨Nat.le_refl _,fun _ _=>rfl⟩
theorem qG.trans {a b c:List Blk}(h:qG a b)(h':qG b c):qG a c:=⟨Nat.le_trans h.1 h'.1,fun i hi=>by rw[h'.2 i (by have:=h.1;omega),h.2 i hi]⟩
theorem dx.grow {α:Type}{e:α→PV}{b:Nat}{hp hp':List Blk}{l:List α}{p:PV}(h:dx e b hp l p)(g:qG hp hp'):dx e b hp' l p:=by
 obtain⟨hb,h⟩:=h
 refine⟨Nat.le_trans hb g.1,?_⟩
 rcases h with ⟨rfl,rfl⟩| ⟨id,m,h1,h2,rfl,h⟩
 ·exact .inl ⟨rfl,rfl⟩
 ·exact .inr ⟨id,m,h1,Nat.lt_of_lt_of_le h2 g.1,rfl,by rw[g.2 id h2];exact h⟩
theorem DR (run:ar)(dr:Bool)(hp:List Blk)(c:List Nat)(r:List Nat)(hc:T.Dok c)(hr:T.Dok r)(hl:c.length+r.length<9000000) :
  ∃ p' hp' fp hp'' fp',df hp 1 (.imm c.length true (c.map iv)) r.length (r.map iv)=some (p',hp',fp)∧cg (CC LT6) run dr hp' 156 [p']=some (bz (T.aG (T.val (c++r))),hp'',fp')∧qG hp hp'':=by
 have htr:iu [mb iv (c++r)]=some [bz (T.aG (T.val (c++r)))]:=by
  have h1:=hc.append hr
  have h2:=dP h1 (show (c++r).length<10000000 by simp;omega)
  simp only[bz] at h2
  simp only[iu,h2,T.eD h1]
 by_cases h0:r.length=0
 ·have hr0:r=[]:=List.length_eq_zero_iff.1 h0
  subst hr0
  rw[List.append_nil] at htr ⊢
  refine⟨.imm c.length true (c.map iv),hp,FP.none,?_⟩
  have h4:bt (snap hp bp) [.imm c.length true (c.map iv)]=some ([.imm c.length true (c.map iv)],[]):=rfl
  have h3:(CC LT6).orc 156 [.imm c.length true (c.map iv)]=some [bz (T.aG (T.val c))]:=by
   show bw LT6 156 [.imm c.length true (c.map iv)]=_
   rw[Cz]
   simp only[aK,iM.Z0 _ true c rfl]
   exact htr
  exact⟨_,_,by simp[df],eI kU h4 h3 rfl,qG.refl hp⟩
 ·have hO:jB iv hp.length (aO hp (c.map iv++r.map iv)) (c++r) (.own hp.length 1 0 (c.length+r.length) false):=by
   refine⟨by simp[aO],.inr ⟨hp.length,[],false,Nat.le_refl _,by simp[aO],by simp,nofun,?_⟩⟩
   rw[bN,if_pos rfl,List.append_nil,List.map_append]
  obtain⟨hp'',fp',h1,h2,h3⟩:=rP kU Cz run dr iM hO _ htr
  have hlen:(aO hp (c.map iv++r.map iv)).length≤hp''.length:=Nat.le_of_eq h3.symm
  refine⟨.own hp.length 1 0 (c.length+r.length) false,aO hp (c.map iv++r.map iv),⟨[],[hp.length],true,false⟩,hp'',fp',?_,h1,?_,?_⟩
  ·simp only[df,if_neg h0]
   rw[if_pos ⟨Nat.le_trans (Nat.le_of_lt hl) (by decide),by simp⟩]
  ·exact Nat.le_trans (by simp[aO]) hlen
  ·intro i hi
   rw[h2 i hi,bN,if_neg (by omega)]
noncomputable def dD:Code:=Tryz.f121.body.getD .skip
noncomputable def iH:Code:=((Tryz.f121.body).bind az).getD .skip
noncomputable def yq:Code:=(az iH).getD .skip
noncomputable def sM:Code:=match cA iH with | .seq (.block _ c) _=>c | c=>c
def QF (fr:List PV)(b:PV)(p s:Bool)(x y:List Nat)(q i:PV):Prop :=
 fr.length=164∧nth fr 1=b∧nth fr 12 = .sc (.bool p)∧nth fr 13=bz x∧nth fr 14 = .sc (.bool s)∧nth fr 15=bz y∧nth fr 17=q∧nth fr 19=i
theorem yp (run:ar)(k:Nat)(fr:List PV)(hp:List Blk)(wr:List Nat)(b:PV)(p s:Bool)(x y r:List Nat)(q i n:PV)(z:Int)(hz:z<0)(hc:aA LT6 run 118 [bz r,bz y] (Ab.bJ z))(h:QF fr b p s x y q i)(h18:nth fr 18=bz r)(h20:nth fr 20=n) :
  ∃ fr',af (CC LT6) run k yq ⟨fr,hp,wr⟩=some (.exit 2,⟨fr',hp,wr⟩)∧QF fr' b p s x y q i∧nth fr' 18=bz r∧nth fr' 20=n:=by
 obtain⟨h0,h1,h12,h13,h14,h15,h17,h19⟩:=h
 unfold aA at hc
 simp only[Ab.bJ] at hc
 have hz2 : ¬ (0≤z):=by omega
 simp[QF,yq,iH,Tryz.f121,az,af,aJ,ao,aq,aH,ag,ai,aQ,aj,an,aF,aC,FP.none,bd,au,bj,aw,aa,ae,ab,and_assoc,h0,h1,h12,h13,h14,h15,h17,h18,h19,h20,hc,hz2]
theorem QA (run:ar)(k:Nat)(fr:List PV)(hp:List Blk)(wr:List Nat)(b:PV)(p s:Bool)(x y r r':List Nat)(q i:PV)(n:Nat)(z:Int)(hz:0≤z)(hn:n<1000000)(hc:aA LT6 run 118 [bz r,bz y] (Ab.bJ z))(hc2:aA LT6 run 119 [bz r,bz y] (bz r'))(h:QF fr b p s x y q i)(h18:nth fr 18=bz r)(h20:nth fr 20=iv n) :
  ∃ fr',af (CC LT6) run k yq ⟨fr,hp,wr⟩=some (.normal,⟨fr',hp,wr⟩)∧QF fr' b p s x y q i∧nth fr' 18=bz r'∧nth fr' 20=iv (n+1):=by
 obtain⟨h0,h1,h12,h13,h14,h15,h17,h19⟩:=h
 unfold aA at hc hc2
 simp only[Ab.bJ] at hc
 have hw:=bE n (by omega)
 simp only[iv] at h20 ⊢
 simp[QF,yq,iH,Tryz.f121,az,af,aJ,ao,aq,aH,ag,ai,aQ,aj,an,aF,aC,FP.none,bd,au,bj,aw,aa,ae,ab,and_assoc,h0,h1,h12,h13,h14,h15,h17,h18,h19,h20,hc,hc2,hz,hw]
theorem vq (run:ar)(k:Nat)(hp:List Blk)(wr:List Nat)(b:PV)(p s:Bool)(x:List Nat)(q i:PV)(Y:Nat)(hY:0<Y)(hY9:(T.aG Y).length<9000000):∀ (d n R:Nat) (fr:List PV),R<(d+1)*Y→n+d<1000000→(T.aG R).length<9000000→QF fr b p s x (T.aG Y) q i→nth fr 18=bz (T.aG R)→nth fr 20=iv n →
  ∃ fr',cl (af (CC LT6) run k yq) (d+1) ⟨fr,hp,wr⟩=some (.exit 2,⟨fr',hp,wr⟩)∧QF fr' b p s x (T.aG Y) q i∧nth fr' 18=bz (T.aG (R % Y))∧nth fr' 20=iv (n+R / Y)
 | 0,n,R,fr,hR,hn,hR9,h,h18,h20=>by
  have hlt:R<Y:=by omega
  obtain⟨fr',g1,g2,g3,g4⟩:=yp run k fr hp wr b p s x (T.aG Y) _ q i _ _ (by unfold dQ;rw[if_pos hlt];omega) (wq run R Y (by omega) (by omega)) h h18 h20
  exact⟨fr',bD g1,g2,by rw[g3,Nat.mod_eq_of_lt hlt],by rw[g4,Nat.div_eq_of_lt hlt,Nat.add_zero]⟩
 | d+1,n,R,fr,hR,hn,hR9,h,h18,h20=>by
  by_cases hlt:R<Y
  ·obtain⟨fr',g1,g2,g3,g4⟩:=yp run k fr hp wr b p s x (T.aG Y) _ q i _ _ (by unfold dQ;rw[if_pos hlt];omega) (wq run R Y (by omega) (by omega)) h h18 h20
   exact⟨fr',bD g1,g2,by rw[g3,Nat.mod_eq_of_lt hlt],by rw[g4,Nat.div_eq_of_lt hlt,Nat.add_zero]⟩
  ·have hge:Y≤R:=by omega
   have hz:0≤dQ R Y:=by
    unfold dQ
    rw[if_neg hlt]
    split <;> omega
   obtain⟨fr1,g1,g2,g3,g4⟩:=QA run k fr hp wr b p s x (T.aG Y) _ _ q i n _ hz (by omega) (wq run R Y (by omega) (by omega)) (Zg run R Y (by omega) (by omega) hge) h h18 h20
   have hl:(T.aG (R - Y)).length<9000000:=Nat.lt_of_le_of_lt (T.cH (by omega)) hR9
   obtain⟨fr',q1,q2,q3,q4⟩:=vq run k hp wr b p s x q i Y hY hY9 d (n+1) (R - Y) fr1 (by
    rw[Nat.add_mul (d+1) 1,Nat.one_mul] at hR
    omega) (by omega) hl g2 g3 g4
   refine⟨fr',by rw[ch g1];exact q1,q2,?_,?_⟩
   ·rw[q3,Nat.mod_eq_sub_mod hge]
   ·rw[q4,Nat.div_eq_sub_div hY hge]
    congr 1
    omega
theorem P8:iH = .seq (seq1 iH) (.seq (.block 1 sM) (ah 2 iH)):=rfl
theorem Ls:ah 2 sM = .seq (.block 2 (.loop yq)) (ah 3 sM):=rfl
theorem Lr (L:Lst)(run:ar)(k:Nat)(fr:List PV)(hp:List Blk)(wr:List Nat)(b:PV)(p s:Bool)(x y r:List Nat)(q:PV)(h:QF fr b p s x y q (.sc (.int .i64 (-1))))(h18:nth fr 18=bz r) :
  ∃ fr',af (CC L) run k iH ⟨fr,hp,wr⟩=some (.exit 0,⟨fr',hp,wr⟩)∧QF fr' b p s x y q (.sc (.int .i64 (-1)))∧nth fr' 18=bz r:=by
 obtain⟨h0,h1,h12,h13,h14,h15,h17,h19⟩:=h
 simp[QF,iH,Tryz.f121,az,af,aJ,ao,aq,aH,ag,ai,aj,an,aF,aC,FP.none,bd,au,bj,aw,aa,ae,ab,and_assoc,h0,h1,h12,h13,h14,h15,h17,h18,h19]
theorem P9 (L:Lst)(run:ar)(k:Nat)(fr:List PV)(hp:List Blk)(wr:List Nat)(b:PV)(p s:Bool)(x y r:List Nat)(q:PV)(i:Nat)(h:QF fr b p s x y q (iv i))(h18:nth fr 18=bz r) :
  ∃ fr',af (CC L) run k (seq1 iH) ⟨fr,hp,wr⟩=some (.normal,⟨fr',hp,wr⟩)∧QF fr' b p s x y q (iv i)∧nth fr' 18=bz r:=by
 obtain⟨h0,h1,h12,h13,h14,h15,h17,h19⟩:=h
 simp only[iv] at h19
 simp[QF,iH,Tryz.f121,az,seq1,af,aJ,ao,aq,aH,ag,ai,aj,an,aF,aC,FP.none,bd,au,bj,aw,aa,ae,ab,and_assoc,h0,h1,h12,h13,h14,h15,h17,h18,h19,iv]
set_option maxHeartbeats 1000000 in
theorem Lt (run:ar)(k:Nat)(fr:List PV)(hp:List Blk)(wr:List Nat)(b:PV)(p s:Bool)(x y r:List Nat)(q:PV)(i:Nat)(hx:T.Dok x)(hr:T.Dok r)(hi:i<x.length)(hr9:r.length<8000000)(h:QF fr b p s x y q (iv i))(h18:nth fr 18=bz r) :
  ∃ fr' hp' wr',aY (CC LT6) run k 2 sM ⟨fr,hp,wr⟩=some ⟨fr',hp',wr'⟩∧QF fr' b p s x y q (iv i)∧nth fr' 18=bz (T.aG (at0 x i+10*T.val r))∧nth fr' 20=iv 0∧qG hp hp':=by
 obtain⟨h0,h1,h12,h13,h14,h15,h17,h19⟩:=h
 have hda:=fz x i hi
 have hd9:=T.cw hx i
 generalize at0 x i=d at *
 obtain⟨p',hp1,fp,hp2,fp',g1,g2,g3⟩:=DR run false hp [d] r (T.Dok.nil.cons hd9) hr (by simp;omega)
 have e:T.val ([d]++r)=d+10*T.val r:=rfl
 rw[e] at g2
 have hlX:ie TT 24 1 [(0,.sc (.int .i64 (d:Int)))]=some (1,[iv d]):=mA d
 have hrd:fO hp 1 (bz r)=some (r.length,r.map iv,[]):=by simp[fO,bz,mb]
 have g1':df hp 1 (.imm 1 true [iv d]) r.length (r.map iv)=some (p',hp1,fp):=g1
 have hok:=iM.Q8 r
 have e1:bz x = .imm x.length false (x.map iv):=rfl
 rw[e1] at h13
 simp only[iv] at h19 ⊢
 simp[QF,e1,sM,iH,Tryz.f121,az,cA,aY,af,aJ,ao,aq,aH,ag,ai,aQ,aj,an,aF,aC,FP.none,aw,bc,bm,partOf,aa,ae,ab,bh,and_assoc,h0,h1,h12,h13,h14,h15,h17,h18,h19,hi,hda,aU,uL,sI,aI,bI,zI,cn,hlX,hrd,hok,iA,g1',g2,g3]
theorem FF (L:Lst)(run:ar)(k:Nat)(fr:List PV)(hp:List Blk)(wr:List Nat)(b:PV)(p s:Bool)(x y r out:List Nat)(q i:PV)(n:Nat)(ho9:out.length<20000000)(h:QF fr b p s x y q i)(h18:nth fr 18=bz r)(h20:nth fr 20=iv n)(hO:dx iv 0 hp out q) :
  ∃ fr' hp' wr' q',af (CC L) run k (ah 3 sM) ⟨fr,hp,wr⟩=some (.normal,⟨fr',hp',wr'⟩)∧QF fr' b p s x y q' i∧nth fr' 18=bz r∧dx iv 0 hp' (out++[n]) q':=by
 obtain⟨h0,h1,h12,h13,h14,h15,h17,h19⟩:=h
 obtain⟨q',hp',fp,g1,g2,-⟩:=hO.app n (by omega)
 have hlX:ie TT 24 1 [(0,.sc (.int .i64 (n:Int)))]=some (1,[iv n]):=mA n
 simp only[iv] at h20
 refine (fun ⟨fr',wr',h⟩=>⟨fr',hp',wr',q',h⟩:(∃ fr' wr',_)→_) ?_
 simp[QF,sM,iH,Tryz.f121,az,cA,ah,af,aJ,ao,aq,aH,ag,ai,aj,an,aF,aC,FP.none,aw,aa,ae,ab,bh,and_assoc,bg,dN,h0,h1,h12,h13,h14,h15,h17,h18,h19,h20,uL,sI,bI,zI,cn,hlX,j9,iA,g1,g2]
theorem P7 (L:Lst)(run:ar)(k:Nat)(fr:List PV)(hp:List Blk)(wr:List Nat)(b:PV)(p s:Bool)(x y r:List Nat)(q:PV)(i:Nat)(hi:i<20000000)(h:QF fr b p s x y q (iv i))(h18:nth fr 18=bz r) :
  ∃ fr',af (CC L) run k (ah 2 iH) ⟨fr,hp,wr⟩=some (.normal,⟨fr',hp,wr⟩)∧QF fr' b p s x y q (.sc (.int .i64 ((i:Int) - 1)))∧nth fr' 18=bz r:=by
 obtain⟨h0,h1,h12,h13,h14,h15,h17,h19⟩:=h
 have hw:=cR i (by omega)
 simp only[iv] at h19
 simp[QF,iH,Tryz.f121,az,ah,af,aJ,ao,aq,aH,ag,ai,aj,an,aF,aC,FP.none,bd,au,bj,aw,aa,ae,ab,and_assoc,h0,h1,h12,h13,h14,h15,h17,h18,h19,hw]
theorem vp (run:ar)(kk:Nat)(b:PV)(p s:Bool)(x:List Nat)(Y:Nat)(hx:T.Dok x)(hx9:x.length<7000000)(hY:0<Y)(hY9:(T.aG Y).length<7000000)(hkk:11≤kk) :
  ∀ (J R:Nat) (fr:List PV) (hp:List Blk) (wr:List Nat) (out:List Nat) (q:PV),J≤x.length→R<Y→out.length+J≤x.length→T.Dok out→T.val (x.drop J)=Y*T.val out.reverse+R→QF fr b p s x (T.aG Y) q (.sc (.int .i64 ((J:Int) - 1)))→nth fr 18=bz (T.aG R)→dx iv 0 hp out q →
  ∃ (fr':List PV) (hp':List Blk) (wr':List Nat) (out':List Nat) (q':PV),cl (af (CC LT6) run kk iH) (J+1) ⟨fr,hp,wr⟩=some (.exit 0,⟨fr',hp',wr'⟩)∧QF fr' b p s x (T.aG Y) q' (.sc (.int .i64 (-1)))∧nth fr' 18=bz (T.aG (T.val x % Y))∧dx iv 0 hp' out' q'∧T.Dok out'∧T.val out'.reverse=T.val x / Y∧out'.length≤x.length
 | 0,R,fr,hp,wr,out,q,hJ,hR,hol,hod,hv,h,h18,hO=>by
  have h':QF fr b p s x (T.aG Y) q (.sc (.int .i64 (-1))):=h
  obtain⟨fr',g1,g2,g3⟩:=Lr LT6 run kk fr hp wr b p s x _ _ q h' h18
  rw[List.drop_zero] at hv
  have e1:T.val x % Y=R:=by rw[hv,Nat.mul_add_mod,Nat.mod_eq_of_lt hR]
  have e2:T.val x / Y=T.val out.reverse:=by rw[hv,Nat.mul_add_div hY,Nat.div_eq_of_lt hR,Nat.add_zero]
  exact⟨fr',hp,wr,out,q,bD g1,g2,by rw[g3,e1],hO,hod,e2.symm,by omega⟩
 | i+1,R,fr,hp,wr,out,q,hJ,hR,hol,hod,hv,h,h18,hO=>by
  have hi:i<x.length:=by omega
  have h':QF fr b p s x (T.aG Y) q (iv i):=by
   have e:PV.sc (.int .i64 (((i+1:Nat):Int) - 1))=iv i:=by simp[iv]
   rw[← e];exact h
  have hR9:=T.cH (Nat.le_of_lt hR)
  have hd9:=T.cw hx i
  obtain⟨f1,a1,a2,a3⟩:=P9 LT6 run kk fr hp wr b p s x _ _ q i h' h18
  obtain⟨f2,hp2,wr2,b1,b2,b3,b4,b5⟩:=Lt run kk f1 hp wr b p s x _ _ q i hx (T.bU R) hi (by omega) a2 a3
  rw[T.bZ] at b3
  have hlt:at0 x i+10*R<(9+1)*Y:=by omega
  have hl9:(T.aG (at0 x i+10*R)).length<9000000:=by
   have h1:=T.cH (show at0 x i+10*R≤10*Y by omega)
   have h2:(T.aG (10*Y)).length≤(T.aG Y).length+1:=T.di (by
    rw[Nat.pow_succ,Nat.mul_comm]
    exact Nat.mul_lt_mul_of_pos_right (T.fy Y) (by omega))
   omega
  obtain⟨f3,c1,c2,c3,c4⟩:=vq run kk hp2 wr2 b p s x q (iv i) Y hY (by omega) 9 0 _ f2 hlt (by omega) hl9 b2 b3 b4
  rw[Nat.zero_add] at c4
  obtain⟨f4,hp4,wr4,q4,d1,d2,d3,d4⟩:=FF LT6 run kk f3 hp2 wr2 b p s x _ _ out q (iv i) _ (by omega) c2 c3 c4 (dx.grow hO b5)
  obtain⟨f5,e1,e2,e3⟩:=P7 LT6 run kk f4 hp4 wr4 b p s x _ _ q4 i (by omega) d2 d3
  have hB:af (CC LT6) run kk sM ⟨f1,hp,wr⟩=some (.normal,⟨f4,hp4,wr4⟩):=by
   rw[aP 2 b1,Ls,av (bH (ca c1 (by omega)))]
   exact d1
  have hO1:af (CC LT6) run kk iH ⟨fr,hp,wr⟩=some (.normal,⟨f5,hp4,wr4⟩):=by
   rw[P8,av a1,av (dW hB)]
   exact e1
  have hq9:(at0 x i+10*R) / Y<10:=Nat.div_lt_of_lt_mul (by omega)
  have hdm:=Nat.div_add_mod (at0 x i+10*R) Y
  obtain⟨fr',hp',wr',out',q',r1,r2⟩:=vp run kk b p s x Y hx hx9 hY hY9 hkk i ((at0 x i+10*R) % Y) f5 hp4 wr4 (out++[(at0 x i+10*R) / Y]) q4 (by omega) (Nat.mod_lt _ hY) (by simp;omega) (hod.append (T.Dok.nil.cons hq9)) (by
   rw[T.ik x i hi,hv,List.reverse_append]
   show at0 x i+10*(Y*T.val out.reverse+R)=Y*((at0 x i+10*R) / Y+10*T.val out.reverse)+(at0 x i+10*R) % Y
   rw[Nat.mul_add Y,← Nat.mul_assoc Y 10,Nat.mul_comm Y 10,Nat.mul_assoc 10,Nat.mul_add 10]
   omega) e2 e3 d4
  exact⟨fr',hp',wr',out',q',by rw[ch hO1];exact r1,r2⟩
noncomputable def pH:Code:=(az (ah 10 dD)).getD .skip
noncomputable def re:Code:=match cA pH with | .seq (.block _ c) _=>c | c=>c
theorem WT:((Region.before (gJ re))[21]?.getD 0).testBit 15=true:=by kernel_rfl
theorem WS:((Region.before (gJ re))[21]?.getD 0).testBit 19=true:=by kernel_rfl
theorem WR:((Region.before (gJ re))[23]?.getD 0).testBit 15=true:=by kernel_rfl
theorem WQ:((Region.before (gJ re))[23]?.getD 0).testBit 19=true:=by kernel_rfl
theorem WO:((Region.before (gJ re))[23]?.getD 0).testBit 21=true:=by kernel_rfl
def SF (fr:List PV)(b:PV)(p s:Bool)(r:List Nat)(q:PV):Prop :=
 fr.length=164∧nth fr 1=b∧nth fr 12 = .sc (.bool p)∧nth fr 14 = .sc (.bool s)∧nth fr 18=bz r∧nth fr 17=q
theorem yo (L:Lst)(run:ar)(k:Nat)(fr:List PV)(hp:List Blk)(wr:List Nat)(b:PV)(p s:Bool)(r:List Nat)(q:PV)(n i:Nat)(hn9:n<20000000)(hq:ef q=some n)(hi:n / 2≤i)(h:SF fr b p s r q)(h21:nth fr 21=iv i) :
  ∃ fr',af (CC L) run k pH ⟨fr,hp,wr⟩=some (.exit 4,⟨fr',hp,wr⟩)∧SF fr' b p s r q:=by
 obtain⟨h0,h1,h12,h14,h18,h17⟩:=h
 obtain⟨m,hm⟩:∃ m,m=n / 2:=⟨_,rfl⟩
 rw[← hm] at hi
 have hd:((n:Int) / 2)=(m:Int):=by omega
 have hm9:m<20000000:=by rw[hm];exact Nat.lt_of_le_of_lt (Nat.div_le_self _ _) hn9
 clear hm
 have hw:=cu .i64 m (hiI (by omega))
 have hlt2 : ¬ (i<m):=by omega
 simp only[iv] at h21
 simp[SF,pH,dD,Tryz.f121,az,ah,af,aJ,ao,aq,aH,ag,ai,aj,an,aF,aC,FP.none,bd,au,bj,aw,bM,aa,ae,ab,bh,h0,h1,h12,h14,h18,h17,h21,uL,hq,hd,hw,hlt2]
set_option maxHeartbeats 8000000 in
theorem Cf (L:Lst)(run:ar)(k:Nat)(fr:List PV)(hp:List Blk)(wr:List Nat)(b:PV)(p s:Bool)(r l z:List Nat)(id n i j:Nat)(hn9:n<20000000)(hn:l.length=n)(hb:aV hp id=some ⟨.live,(l++z).map iv⟩)(hi:i<n / 2)(hj:n=i+j+1)(h:SF fr b p s r (.own id 1 0 n false))(h21:nth fr 21=iv i) :
  ∃ fr' wr',af (CC L) run k pH ⟨fr,hp,wr⟩=some (.normal,⟨fr',bO (bO hp id ⟨.live,((l++z).set i (at0 l j)).map iv⟩) id ⟨.live,(((l++z).set i (at0 l j)).set j (at0 l i)).map iv⟩,wr'⟩)∧SF fr' b p s r (.own id 1 0 n false)∧nth fr' 21=iv (i+1):=by
 obtain⟨h0,h1,h12,h14,h18,h17⟩:=h
 obtain⟨m,hm⟩:∃ m,m=n / 2:=⟨_,rfl⟩
 have hin:i<n:=by omega
 have hjn:j<n:=by omega
 have hij:i≠j:=by omega
 rw[← hm] at hi
 have hm9:m<20000000:=by rw[hm];exact Nat.lt_of_le_of_lt (Nat.div_le_self _ _) hn9
 have hw:=cu .i64 m (hiI (Nat.le_trans (Nat.le_of_lt hm9) (by decide)))
 have hw1:=cR n (Nat.lt_trans hn9 (by decide))
 have hw2:bA .i64 ((n:Int) - 1 - (i:Int))=(j:Int):=by rw[show ((n:Int) - 1 - (i:Int))=(j:Int) by omega];exact cu .i64 j (hiI (Nat.le_trans (Nat.le_of_lt (Nat.lt_trans hjn hn9)) (by decide)))
 have hwi:=bE i (Nat.lt_trans (Nat.lt_trans hin hn9) (by decide))
 have hd:((n:Int) / 2)=(m:Int):=by rw[hm];rfl
 clear hm
 have hil:i<(l++z).length:=by simp;omega
 have hjl:j<(l++z).length:=by simp;omega
 have ha:at0 (l++z) i=at0 l i:=by unfold at0;rw[List.getElem?_append_left (by omega)]
 have hb':at0 (l++z) j=at0 l j:=by unfold at0;rw[List.getElem?_append_left (by omega)]
 have hd1:=fz (l++z) i hil
 have hd2:=fz (l++z) j hjl
 rw[ha] at hd1
 rw[hb'] at hd2
 have hov:=jN (e:=iv) (l++z) i (at0 l j) hil
 have hov2:=jN (e:=iv) ((l++z).set i (at0 l j)) j (at0 l i) (by rw[List.length_set];exact hjl)
 have hsb:aV (bO hp id ⟨.live,((l++z).set i (at0 l j)).map iv⟩) id=some ⟨.live,((l++z).set i (at0 l j)).map iv⟩:=by rw[cQ hb,if_pos rfl]
 generalize at0 l i=a at *
 generalize at0 l j=c at *
 generalize l++z=lz at *
 have hb1:=WT
 have hb2:=WS
 have hb3:=WR
 have hb4:=WQ
 have hb5:=WO
 simp[-Nat.testBit_zero,re,pH,dD,Tryz.f121,ah,az,cA,gJ] at hb1 hb2 hb3 hb4 hb5
 simp only[iv] at h21 ⊢
 simp[-Nat.testBit_zero,-List.map_set,hb1,hb2,hb3,hb4,hb5,SF,pH,dD,Tryz.f121,az,ah,af,aJ,ao,aq,aH,ag,ai,aj,an,aF,aC,FP.none,bd,au,bj,aw,bM,bc,bm,partOf,aa,ae,ab,bh,and_assoc,gw,bg,qv,dN,h0,h1,h12,h14,h18,h17,h21,uL,sI,aI,aU,hb,hsb,hi,hin,hjn,hd,hw,hw1,hw2,hwi,hd1,hd2,hov,hov2,pz a,pz c,number,FP.free,cF,FP.apart]
theorem mj (l:List Nat)(i y m:Nat)(h:i<l.length):at0 (l.set i y) m=if m=i then y else at0 l m:=by
 by_cases e:m=i
 ·subst e;rw[if_pos rfl,de (by simpa using h)];simp
 ·rw[if_neg e,fW (fun h=>e h.symm)]
theorem AD {a b:List Nat}(hl:a.length=b.length)(h:∀ m,m<a.length→at0 a m=at0 b m):a=b:=by
 refine List.ext_getElem hl fun m h1 h2 => ?_
 have:=h m h1
 rwa [de h1,de h2] at this
theorem Jp (l:List Nat)(m:Nat)(h:m<l.length):at0 l.reverse m=at0 l (l.length - 1 - m):=by
 rw[de (by simpa using h),de (by omega),List.getElem_reverse]
theorem vn (L:Lst)(run:ar)(k:Nat)(b:PV)(p s:Bool)(r l z:List Nat)(id n:Nat)(hn9:n<20000000)(hn:l.length=n):∀ (d i:Nat) (fr:List PV) (hp:List Blk) (wr cur:List Nat),i+d=n / 2→cur.length=n→id<hp.length→aV hp id=some ⟨.live,(cur++z).map iv⟩ →
  (∀ m,m<n→at0 cur m=if m<i∨n - i≤m then at0 l (n - 1 - m) else at0 l m)→SF fr b p s r (.own id 1 0 n false)→nth fr 21=iv i →
  ∃ (fr':List PV) (hp':List Blk) (wr':List Nat),cl (af (CC L) run k pH) (d+1) ⟨fr,hp,wr⟩=some (.exit 4,⟨fr',hp',wr'⟩)∧SF fr' b p s r (.own id 1 0 n false)∧dx iv 0 hp' l.reverse (.own id 1 0 n false)
 | 0,i,fr,hp,wr,cur,hd,hc,hid,hb,hI,h,h21=>by
  obtain⟨fr',g1,g2⟩:=yo L run k fr hp wr b p s r _ n i hn9 rfl (by omega) h h21
  have e:cur=l.reverse:=AD (by simp[hc,hn]) fun m hm=>by
   rw[hc] at hm
   rw[hI m hm,Jp l m (by omega),hn]
   by_cases h1:m<i∨n - i≤m
   ·rw[if_pos h1]
   ·rw[if_neg h1]
    congr 1
    omega
  refine⟨fr',hp,wr,bD g1,g2,Nat.zero_le _,.inr ⟨id,z,Nat.zero_le _,hid,by simp[hn],?_⟩⟩
  rw[← e];exact hb
 | d+1,i,fr,hp,wr,cur,hd,hc,hid,hb,hI,h,h21=>by
  obtain⟨j,hj⟩:∃ j,n=i+j+1:=⟨n - i - 1,by omega⟩
  have hij:i<j:=by omega
  obtain⟨fr1,wr1,g1,g2,g3⟩:=Cf L run k fr hp wr b p s r cur z id n i j hn9 hc hb (by omega) hj h h21
  have e1:((cur++z).set i (at0 cur j)).set j (at0 cur i)=((cur.set i (at0 cur j)).set j (at0 cur i))++z:=by
   rw[List.set_append_left _ _ (by omega),List.set_append_left _ _ (by rw[List.length_set];omega)]
  rw[e1] at g1
  have hb1:aV (bO (bO hp id ⟨.live,((cur++z).set i (at0 cur j)).map iv⟩) id ⟨.live,(((cur.set i (at0 cur j)).set j (at0 cur i))++z).map iv⟩) id=some ⟨.live,(((cur.set i (at0 cur j)).set j (at0 cur i))++z).map iv⟩:=by
   rw[cQ (b0:=⟨.live,((cur++z).set i (at0 cur j)).map iv⟩) (by rw[cQ hb,if_pos rfl]),if_pos rfl]
  have hai:=hI i (by omega)
  have haj:=hI j (by omega)
  rw[if_neg (by omega)] at hai haj
  obtain⟨fr',hp',wr',q1,q2⟩:=vn L run k b p s r l z id n hn9 hn d (i+1) fr1 _ wr1 ((cur.set i (at0 cur j)).set j (at0 cur i)) (by omega) (by simp[hc]) (by rw[bF,bF];exact hid) hb1
   (fun m hm=>by
    rw[mj _ _ _ _ (by rw[List.length_set];omega),mj _ _ _ _ (by omega)]
    by_cases e2:m=j
    ·rw[if_pos e2,hai,if_pos (by omega)]
     congr 1
     omega
    ·rw[if_neg e2]
     by_cases e3:m=i
     ·rw[if_pos e3,haj,if_pos (by omega)]
      congr 1
      omega
     ·rw[if_neg e3,hI m hm]
      by_cases e4:m<i∨n - i≤m
      ·rw[if_pos e4,if_pos (by omega)]
      ·rw[if_neg e4,if_neg (by omega)]) g2 g3
  exact⟨fr',hp',wr',by rw[ch g1];exact q1,q2⟩
theorem Lq (L:Lst)(run:ar)(k:Nat)(b:PV)(p s:Bool)(r l:List Nat)(q:PV)(hn9:l.length<20000000)(fr:List PV)(hp:List Blk)(wr:List Nat)(hO:dx iv 0 hp l q)(h:SF fr b p s r q)(h21:nth fr 21=iv 0) :
  ∃ (fr':List PV) (hp':List Blk) (wr':List Nat),cl (af (CC L) run k pH) (l.length / 2+1) ⟨fr,hp,wr⟩=some (.exit 4,⟨fr',hp',wr'⟩)∧SF fr' b p s r q∧dx iv 0 hp' l.reverse q:=by
 obtain⟨hb,hO⟩:=hO
 rcases hO with ⟨rfl,rfl⟩| ⟨id,z,h1,h2,rfl,h3⟩
 ·obtain⟨fr',g1,g2⟩:=yo L run k fr hp wr b p s r _ 0 0 (by omega) rfl (by omega) h h21
  exact⟨fr',hp,wr,bD g1,g2,dx.nil hb⟩
 ·obtain⟨fr',hp',wr',g1,g2,g3⟩:=vn L run k b p s r l z id l.length hn9 rfl (l.length / 2) 0 fr hp wr l (by omega) rfl h2 h3 (fun m hm=>by rw[if_neg (by omega)]) h h21
  exact⟨fr',hp',wr',g1,g2,g3⟩
end Go.Proofs.YtjdmodeenbdfpaaGreat
