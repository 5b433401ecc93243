/- Contracts of numbers kept as digits in text, part 29; each lemma states its conditions. -/
import Derived.Test.YtjdmodeenbdfpaaGreatU28
import Derived.Test.YtjdmodeenbdfpaaGreatU13
set_option linter.unusedSimpArgs false
set_option linter.unusedVariables false
noncomputable section
namespace Go.Proofs.YtjdmodeenbdfpaaGreat
open Go Go.Ab List Tryz
attribute [local simp] FzZ aC aF aG aH aV aa ab ae af ag ah aj an aq ar au aw az bM ba bc bf bg bm partOf
variable(L:Lst)(run:av)(k:Nat)(fr:Ψ)(hp:Θ)(wr:Ω)
theorem uL:und TT 24=some (.slice 3):=by kernel_rfl
theorem sI:dm TT 3=some 1:=by kernel_rfl
theorem aI:ia TT 3=some false:=by kernel_rfl
theorem bI:iG TT 3=some 8:=by kernel_rfl
theorem zI:ef TT 3=some [iv 0]:=by kernel_rfl
theorem uAR:und TT 27=some .string:=by kernel_rfl
theorem Ge:base.F.get 156=some f156:=by kernel_rfl
theorem lr:base.shared 156=false:=by kernel_rfl
theorem y7:base.F.get 115=some f115:=by kernel_rfl
theorem tH:base.shared 115=false:=by kernel_rfl
theorem uJ:base.F.get 116=some f116:=by kernel_rfl
theorem jU:base.shared 116=false:=by kernel_rfl
theorem se:base.F.get 113=some f113:=by kernel_rfl
theorem wk:base.shared 113=false:=by kernel_rfl
theorem pz:base.F.get 114=some f114:=by kernel_rfl
theorem tJ:base.shared 114=false:=by kernel_rfl
theorem ow:base.F.get 118=some f118:=by kernel_rfl
theorem zB:base.shared 118=false:=by kernel_rfl
theorem JM:base.F.get 117=some f117:=by kernel_rfl
theorem RB:base.shared 117=false:=by kernel_rfl
theorem Gf:base.F.get 119=some f119:=by kernel_rfl
theorem zD:base.shared 119=false:=by kernel_rfl
theorem JP:base.F.get 120=some f120:=by kernel_rfl
theorem Dh:base.shared 120=false:=by kernel_rfl
theorem JO:base.F.get 155=some f155:=by kernel_rfl
theorem Dg:base.shared 155=false:=by kernel_rfl
theorem JR:base.F.get 69=some f69:=by kernel_rfl
theorem Dk:base.shared 69=false:=by kernel_rfl
theorem Gg:base.F.get 66=some f66:=by kernel_rfl
theorem sy:base.shared 66=false:=by kernel_rfl
theorem y8:base.F.get 147=some f147:=by kernel_rfl
theorem Dj:base.shared 147=false:=by kernel_rfl
theorem Gh:base.F.get 100=some f100:=by kernel_rfl
theorem MP:base.shared 100=false:=by kernel_rfl
theorem jS:base.F.get 111=some f111:=by kernel_rfl
theorem G6:base.shared 111=false:=by kernel_rfl
theorem Cz:base.F.get 68=some f68:=by kernel_rfl
theorem wm:base.shared 68=false:=by kernel_rfl
theorem JN:base.F.get 121=some f121:=by kernel_rfl
theorem Df:base.shared 121=false:=by kernel_rfl
theorem JQ:base.F.get 112=some f112:=by kernel_rfl
theorem Di:base.shared 112=false:=by kernel_rfl
theorem CA:base.F.get 157=some f157:=by kernel_rfl
theorem G7:base.shared 157=false:=by kernel_rfl
def kz:Code:=((f156.body).bind az).getD .skip
theorem Tl (l:Ω)(a:Nat)(hp:Θ):dH TT hp 24 (bA (l++[a])) none (some (.sc (.int .i64 (l.length:Int)))) none=some (bA l):=by
 have h:bA (l++[a]) = .imm (l.length+1) false ((l++[a]).map iv):=by simp[bA,mE]
 rw[h]
 simp only[dH,uL,jg,sI,bnd,fG,gI,Option.map]
 simp[gS,bz]
 rw[dk (by simp)]
 simp[bA,mE]
set_option maxHeartbeats 1000000 in
theorem DK(l:Ω)(a:Nat)(hl:l.length<10000000)(ha:a≠0)
  (h21:fr.length=21) (h0:nth fr 0=bA (l++[a])) :
  ∃ fr',ae (CC L) run k kz ⟨fr,hp,wr⟩=some (.exit 0,⟨fr',hp,wr⟩)∧nth fr' 0=nth fr 0∧fr'.length=21:=by
 have hw:bB .i64 ((l.length+1:Nat) - 1:Int)=Int.ofNat l.length:=by
  have:=dp .i64 l.length (by simp[hiN];omega)
  rw[← this];congr 1;omega
 have hw':bB .i64 (l.length:Int)=Int.ofNat l.length:=dp .i64 l.length (by simp[hiN];omega)
 have h:bA (l++[a]) = .imm (l.length+1) false ((l++[a]).map iv):=by simp[bA,mE]
 have hd:(bz ((l++[a]).map iv) l.length).head?=some (.sc (.int .i64 a)):=by
  rw[nT _ _ (by simp)];simp[iv]
 rw[h] at h0
 have ha':((a:Int) == 0)=false:=by simp;exact ha
 simp[kz,f156,cR,h21,h0,uL,sI,aI,hw',hd,ha',-map_append]
set_option maxHeartbeats 1000000 in
theorem HG(h21:fr.length=21)(h0:nth fr 0=bA []) :
  ∃ fr',ae (CC L) run k kz ⟨fr,hp,wr⟩=some (.exit 0,⟨fr',hp,wr⟩)∧nth fr' 0=nth fr 0∧fr'.length=21:=by
 have h:bA [] = .imm 0 false []:=rfl
 rw[h] at h0
 simp[kz,f156,cR,h21,h0,uL,-map_append]
set_option maxHeartbeats 1000000 in
theorem NB(l:Ω)(hl:l.length<10000000)
  (h21:fr.length=21) (h0:nth fr 0=bA (l++[0])) :
  ∃ fr',ae (CC L) run k kz ⟨fr,hp,wr⟩=some (.normal,⟨fr',hp,wr⟩)∧nth fr' 0=bA l∧fr'.length=21:=by
 have hw':bB .i64 (l.length:Int)=Int.ofNat l.length:=dp .i64 l.length (by simp[hiN];omega)
 have h:bA (l++[0]) = .imm (l.length+1) false ((l++[0]).map iv):=by simp[bA,mE]
 have hd:(bz ((l++[0]).map iv) l.length).head?=some (.sc (.int .i64 0)):=by
  rw[nT _ _ (by simp)];simp[iv]
 have hs:=Tl l 0
 rw[h] at h0 hs
 simp[kz,f156,cR,h21,h0,uL,sI,aI,hw',hd,hs,-map_append]
theorem tV (L:Lst)(run:av)(k:Nat):∀ (n:Nat) (l:Ω) (fr:Ψ) (hp:Θ) (wr:Ω),l.length=n→n<10000000→fr.length=21→nth fr 0=bA l →
  ∃ fr',cg (ae (CC L) run k kz) (n+1) ⟨fr,hp,wr⟩=some (.exit 0,⟨fr',hp,wr⟩)∧nth fr' 0=bA (T.ff l)∧fr'.length=21
 | 0,l,fr,hp,wr,hl,hn,h21,h0=>by
  have:l=[]:=length_eq_zero_iff.1 hl
  subst this
  obtain⟨fr',h1,h2,h3⟩:=HG L run k fr hp wr h21 h0
  exact⟨fr',br h1,by rw[h2,h0];rfl,h3⟩
 | n+1,l,fr,hp,wr,hl,hn,h21,h0=>by
  obtain⟨l',a,rfl,hl'⟩:=Bp hl
  by_cases ha:a=0
  ·subst ha
   obtain⟨fr1,h1,h2,h3⟩:=NB L run k fr hp wr l' (by omega) h21 h0
   obtain⟨fr',g1,g2,g3⟩:=tV L run k n l' fr1 hp wr hl' (by omega) h3 h2
   exact⟨fr',by rw[bU h1];exact g1,by rw[g2,T.ez,if_pos rfl],g3⟩
  ·obtain⟨fr',h1,h2,h3⟩:=DK L run k fr hp wr l' a (by omega) ha h21 h0
   exact⟨fr',br h1,by rw[h2,h0,T.ez,if_neg ha],h3⟩
def ma:Code:=f156.body.getD .skip
theorem BJ:ai 1 ma = .seq (.block 0 (.loop kz)) (ai 2 ma):=rfl
theorem HF (L:Lst)(run:av)(k:Nat)(p:PV):∃ fr,bh (CC L) run k 1 ma ⟨entry 21 [p],[],[]⟩=some ⟨fr,[],[]⟩∧fr.length=21∧nth fr 0=p:=by
 simp[ma,f156,bh,entry,nth,eS]
theorem DL(p:PV)(h21:fr.length=21)(h0:nth fr 0=p) :
  ∃ st,ae (CC L) run k (ai 2 ma) ⟨fr,hp,wr⟩=some (.ret,st)∧aY TT st.fr st.hp f156.results.toList=some [p]:=by
 simp[ma,ai,f156,h21,h0,aY]
def iw:Ψ→Option Ψ
 | [p]=>match mT p with
  | some l=>some [bA (T.ff l)]
  | none=>none
 | _=>none
theorem pJ(l:Ω):bu (snap hp bn) [bA l]=some ([bA l],[]):=rfl
theorem tU:Ab.Spec base.P 156 iw:=Ab.Spec.bL (C:=CC []) (cP trivial) fun args rs h=>by
 unfold iw at h
 split at h
 ·split at h
  ·rename_i l hl
   obtain⟨rfl,_,hlen⟩:=fW hl
   simp only[OiE] at h
   subst h
   obtain⟨fr1,h1,h20,h0⟩:=HF [] (runK (CC []) (l.length+1)) (l.length+1) (bA l)
   obtain⟨fr2,g1,g2,g3⟩:=tV [] (runK (CC []) (l.length+1)) (l.length+1) l.length l fr1 [] [] rfl (by omega) h20 h0
   obtain⟨st,e1,e2⟩:=DL [] (runK (CC []) (l.length+1)) (l.length+1) fr2 [] [] _ g3 g2
   have hx:ae (CC []) (runK (CC []) (l.length+1)) (l.length+1) ma ⟨entry 21 [bA l],[],[]⟩=some (.ret,st):=by
    rw[aU 1 h1,BJ,ao (bD g1)]
    exact e1
   exact⟨l.length+2,_,_,_,_,_,aZ Ge rfl hx e2,pJ _ _,Wk.refl rfl,trivial⟩
  ·cases h
 ·cases h
def jj:Code:=((f118.body).bind az).getD .skip
def gm:Code:=f118.body.getD .skip
set_option maxHeartbeats 1000000 in
theorem HM(h41:fr.length=41)(h5:nth fr 5 = .sc (.int .i64 (-1))) :
  ∃ fr',ae (CC L) run k jj ⟨fr,[],[]⟩=some (.exit 0,⟨fr',[],[]⟩)∧fr'.length=41:=by
 simp[jj,f118,h41,h5]
set_option maxHeartbeats 1000000 in
theorem NK(a b:Ω)(m:Nat)(hma:m<a.length)(hmb:m<b.length)(hl:a.length<10000000)
  (h41:fr.length=41) (h0:nth fr 0=bA a) (h1:nth fr 1=bA b) (h5:nth fr 5 = .sc (.int .i64 (m:Int))) (h:a[m]=b[m]) :
  ∃ fr',ae (CC L) run k jj ⟨fr,[],[]⟩=some (.normal,⟨fr',[],[]⟩)∧fr'.length=41∧nth fr' 0=bA a∧nth fr' 1=bA b∧nth fr' 5 = .sc (.int .i64 ((m:Int) - 1)):=by
 have hw:bB .i64 ((m:Int) - 1)=(m:Int) - 1:=cM m (by omega)
 have hda:=nT (e:=iv) a m hma
 have hdb:=nT (e:=iv) b m hmb
 rw[h] at hda
 generalize b[m]=y at *
 have e1:bA a = .imm a.length false (a.map iv):=rfl
 have e2:bA b = .imm b.length false (b.map iv):=rfl
 have hdg:iv y = .sc (.int .i64 (y:Int)):=rfl
 rw[e1] at h0 ⊢;rw[e2] at h1 ⊢;rw[hdg] at hda hdb
 simp[jj,f118,h41,h0,h1,h5,uL,sI,aI,hma,hmb,hda,hdb,number,FP.free,hw]
set_option maxHeartbeats 1000000 in
theorem NJ(a b:Ω)(m:Nat)(hma:m<a.length)(hmb:m<b.length)(hl:a.length<10000000)
  (h41:fr.length=41) (h0:nth fr 0=bA a) (h1:nth fr 1=bA b) (h5:nth fr 5 = .sc (.int .i64 (m:Int))) (h:a[m]≠b[m]) :
  ∃ fr',ae (CC L) run k jj ⟨fr,[],[]⟩=some (.ret,⟨fr',[],[]⟩)∧fr'.length=41∧nth fr' 4 = .sc (.int .i64 (if a[m]<b[m] then -1 else 1)):=by
 have hda:=nT (e:=iv) a m hma
 have hdb:=nT (e:=iv) b m hmb
 generalize b[m]=y at *
 generalize a[m]=x at *
 have e1:bA a = .imm a.length false (a.map iv):=rfl
 have e2:bA b = .imm b.length false (b.map iv):=rfl
 have hdx:iv x = .sc (.int .i64 (x:Int)):=rfl
 have hdy:iv y = .sc (.int .i64 (y:Int)):=rfl
 rw[e1] at h0;rw[e2] at h1;rw[hdx] at hda;rw[hdy] at hdb
 by_cases hxy:x<y
 ·simp[jj,f118,h41,h0,h1,h5,uL,sI,aI,hma,hmb,hda,hdb,number,FP.free,hxy]
 ·have hyx:y<x:=by omega
  simp[jj,f118,h41,h0,h1,h5,uL,sI,aI,hma,hmb,hda,hdb,number,FP.free,hxy,hyx]
theorem ub (L:Lst)(run:av)(k:Nat)(a b:Ω)(hab:a.length=b.length)(hl:a.length<10000000)(ha:T.Dok a)(hb:T.Dok b):∀ (m:Nat) (fr:Ψ),m≤a.length →
  fr.length=41→nth fr 0=bA a→nth fr 1=bA b→nth fr 5 = .sc (.int .i64 ((m:Int) - 1))→a.drop m=b.drop m →
  (∃ fr',cg (ae (CC L) run k jj) (m+1) ⟨fr,[],[]⟩=some (.exit 0,⟨fr',[],[]⟩)∧fr'.length=41∧dR (T.val a) (T.val b)=0) ∨
  (∃ fr',cg (ae (CC L) run k jj) (m+1) ⟨fr,[],[]⟩=some (.ret,⟨fr',[],[]⟩)∧nth fr' 4 = .sc (.int .i64 (dR (T.val a) (T.val b))))
 | 0,fr,hm,h41,h0,h1,h5,hd=>by
  obtain⟨fr',g1,g2⟩:=HM L run k fr h41 h5
  refine .inl ⟨fr',br g1,g2,?_⟩
  simp at hd
  simp[dR,hd]
 | m+1,fr,hm,h41,h0,h1,h5,hd=>by
  have h5':nth fr 5 = .sc (.int .i64 (m:Int)):=by rw[h5];simp
  have hmb:m<b.length:=by omega
  have hma:m<a.length:=by omega
  by_cases h:a[m]=b[m]
  ·obtain⟨fr1,g1,g2,g3,g4,g5⟩:=NK L run k fr a b m hma hmb hl h41 h0 h1 h5' h
   have hd':a.drop m=b.drop m:=by rw[drop_eq_getElem_cons hma,drop_eq_getElem_cons hmb,hd,h]
   rw[bU g1]
   exact ub L run k a b hab hl ha hb m fr1 (by omega) g2 g3 g4 g5 hd'
  ·obtain⟨fr1,g1,g2,g3⟩:=NJ L run k fr a b m hma hmb hl h41 h0 h1 h5' h
   refine .inr ⟨fr1,dD g1,?_⟩
   rw[g3]
   by_cases hxy:a[m]<b[m]
   ·have:=T.lb ha hma hmb hd hxy
    rw[if_pos hxy,dR,if_pos this]
   ·have:=T.lb hb hmb hma hd.symm (by omega)
    rw[if_neg hxy,dR,if_neg (by omega),if_neg (by omega)]
def kA (a b:Ω):Int:=if a.length<b.length then -1 else if b.length<a.length then 1 else dR (T.val a) (T.val b)
theorem DS(a b:Ω)(h:a.length≠b.length) :
  ∃ st,ae (CC L) run k gm ⟨entry 41 [bA a,bA b],[],[]⟩=some (.ret,st)∧aY TT st.fr st.hp f118.results.toList=some [Ab.bJ (kA a b)]:=by
 by_cases hx:a.length<b.length
 ·simp[gm,f118,entry,nth,eS,FX,dN,uL,h,hx,aY,kA,Ab.bJ]
 ·have:b.length<a.length:=by omega
  simp[gm,f118,entry,nth,eS,FX,dN,uL,h,hx,this,aY,kA,Ab.bJ]
theorem DR (L:Lst)(run:av)(k:Nat)(a b:Ω)(h:a.length=b.length)(hl:a.length<10000000) :
  ∃ fr,bh (CC L) run k 2 gm ⟨entry 41 [bA a,bA b],[],[]⟩=some ⟨fr,[],[]⟩∧fr.length=41∧nth fr 0=bA a∧nth fr 1=bA b:=by
 simp[gm,f118,bh,entry,nth,eS,dN,uL,h]
def wV:Code:=seq1 (seq1 (ai 2 gm))
theorem qN:ai 2 gm = .seq (.seq wV (.block 0 (.loop jj))) (ai 3 gm):=rfl
theorem NI(a b:Ω)(hl:a.length<10000000)(h41:fr.length=41)(h0:nth fr 0=bA a)(h1:nth fr 1=bA b) :
  ∃ fr',ae (CC L) run k wV ⟨fr,[],[]⟩=some (.normal,⟨fr',[],[]⟩)∧fr'.length=41∧nth fr' 0=bA a∧nth fr' 1=bA b∧nth fr' 5 = .sc (.int .i64 ((a.length:Int) - 1)):=by
 have hw:bB .i64 ((a.length:Int) - 1)=(a.length:Int) - 1:=cM _ (by omega)
 simp[wV,gm,ai,seq1,f118,dN,uL,h41,h0,h1,hw]
theorem DT(h41:fr.length=41) :
  ∃ st,ae (CC L) run k (ai 3 gm) ⟨fr,[],[]⟩=some (.ret,st)∧aY TT st.fr st.hp f118.results.toList=some [Ab.bJ 0]:=by
 simp[gm,ai,f118,h41,aY,Ab.bJ]
def kB:Ψ→Option Ψ
 | [p,q]=>match mT p,mT q with
  | some a,some b=>some [Ab.bJ (kA a b)]
  | _,_=>none
 | _=>none
theorem ua:Ab.Spec base.P 118 kB:=Ab.Spec.bL (C:=CC []) (cP trivial) fun args rs h=>by
 unfold kB at h
 split at h
 ·split at h
  ·rename_i a b ea eb
   obtain⟨rfl,ha,hla⟩:=fW ea
   obtain⟨rfl,hb,hlb⟩:=fW eb
   simp only[OiE] at h
   subst h
   by_cases hab:a.length=b.length
   ·obtain⟨fr1,h1,h2,h3,h4⟩:=DR [] (runK (CC []) (a.length+1)) (a.length+1) a b hab hla
    obtain⟨fr2,g1,g2,g3,g4,g5⟩:=NI [] (runK (CC []) (a.length+1)) (a.length+1) fr1 a b hla h2 h3 h4
    have hs:kA a b=dR (T.val a) (T.val b):=by simp[kA,hab]
    rcases ub [] (runK (CC []) (a.length+1)) (a.length+1) a b hab hla ha hb a.length fr2 (Nat.le_refl _) g2 g3 g4 g5 (by simp[hab]) with ⟨fr3,q1,q2,q3⟩| ⟨fr3,q1,q2⟩
    ·obtain⟨st,e1,e2⟩:=DT [] (runK (CC []) (a.length+1)) (a.length+1) fr3 q2
     have hx:ae (CC []) (runK (CC []) (a.length+1)) (a.length+1) gm ⟨entry 41 [bA a,bA b],[],[]⟩=some (.ret,st):=by
      rw[aU 2 h1,qN,ao ((ao g1).trans (bD q1))]
      exact e1
     rw[hs,q3]
     exact⟨a.length+2,_,_,_,_,_,aZ ow rfl hx e2,eB _ _,Wk.refl rfl,trivial⟩
    ·have hx:ae (CC []) (runK (CC []) (a.length+1)) (a.length+1) gm ⟨entry 41 [bA a,bA b],[],[]⟩=some (.ret,⟨fr3,[],[]⟩):=by
      rw[aU 2 h1,qN,bK ((ao g1).trans (cL q1))]
     have e2:aY TT fr3 [] f118.results.toList=some [Ab.bJ (dR (T.val a) (T.val b))]:=by
      simp[f118,aY,q2,Ab.bJ]
     rw[hs]
     exact⟨a.length+2,_,_,_,_,_,aZ ow rfl hx e2,eB _ _,Wk.refl rfl,trivial⟩
   ·obtain⟨st,e1,e2⟩:=DS [] (runK (CC []) 1) 1 a b hab
    exact⟨2,_,_,_,_,_,aZ ow rfl e1 e2,eB _ _,Wk.refl rfl,trivial⟩
  ·cases h
 ·cases h
theorem kH (n:Nat):fP TT 24 1 [(0,iv n)]=some (1,[iv n]):=afT uL sI zI n
def kU:Code:=((f117.body).bind az).getD .skip
def mb:Code:=f117.body.getD .skip
theorem zY(a b:Ω)(i:Nat)(h54:fr.length=54)(h0:nth fr 0=bA a)(h1:nth fr 1=bA b)(h6:nth fr 6=iv 0)(h7:nth fr 7=iv i)
  (ha:a.length≤i) (hb:b.length≤i) :
  ∃ fr',ae (CC L) run k kU ⟨fr,hp,wr⟩=some (.exit 0,⟨fr',hp,wr⟩)∧fr'.length=54∧nth fr' 5=nth fr 5:=by
 have e1 : ¬ (i<a.length):=by omega
 have e2 : ¬ (i<b.length):=by omega
 simp only[iv] at h6 h7
 simp[kU,f117,dN,h54,h0,h1,h6,h7,uL,e1,e2]
set_option maxHeartbeats 4000000 in
theorem tZ(a b out:Ω)(i c s:Nat)(ha:T.Dok a)(hb:T.Dok b)(hc:c≤1)(hgo:i<a.length∨i<b.length∨0<c)(hi9:i<20000000)
  (h54:fr.length=54) (h0:nth fr 0=bA a) (h1:nth fr 1=bA b) (h6:nth fr 6=iv c) (h7:nth fr 7=iv i) (hO:dw iv 0 hp out (nth fr 5)) (ho:out.length=i) (hs:s=c+at0 a i+at0 b i) :
  ∃ fr' hp' wr',ae (CC L) run k kU ⟨fr,hp,wr⟩=some (.normal,⟨fr',hp',wr'⟩)∧fr'.length=54∧nth fr' 0=bA a∧nth fr' 1=bA b∧nth fr' 6=iv (s / 10)∧nth fr' 7=iv (i+1)∧dw iv 0 hp' (out++[s % 10]) (nth fr' 5):=by
 have ha9:=T.cn ha i
 have hb9:=T.cn hb i
 obtain⟨s1,hs1⟩:∃ s1,s1=c+at0 a i:=⟨_,rfl⟩
 rw[← hs1] at hs
 obtain⟨q,hq⟩:∃ q,q=s / 10:=⟨_,rfl⟩
 obtain⟨r,hr⟩:∃ r,r=s % 10:=⟨_,rfl⟩
 obtain⟨p',hp',fp,g1,g2,-⟩:=hO.app r (by omega)
 have hw1:=dx .i64 c (at0 a i) s1 hs1 (hiI (by omega))
 have hw2:=dx .i64 s1 (at0 b i) s hs (hiI (by omega))
 have hw3:bB .i64 ((s:Int) / 10)=(q:Int):=T.jC .i64 s q hq (hiI (by omega))
 have hw4:=T.ll s r hr
 have hwi:=bE i (by omega)
 rw[← hq,← hr]
 have e1:bA a = .imm a.length false (a.map iv):=rfl
 have e2:bA b = .imm b.length false (b.map iv):=rfl
 rw[e1] at h0 ⊢;rw[e2] at h1 ⊢
 simp only[iv] at h6 h7 ⊢
 by_cases hia:i<a.length
 ·have hda:=fB a i hia
  by_cases hib:i<b.length
  ·have hdb:=fB b i hib
   generalize at0 a i=x at *
   generalize at0 b i=y at *
   simp[kU,f117,and_assoc,cR,bj,dP,h54,h0,h1,h6,h7,uL,sI,aI,bI,zI,hia,hib,hda,hdb,hw1,hw2,hw3,hw4,hwi,qE r,kH,lu,iA,bZ,g1,g2]
  ·rw[jd (Nat.le_of_not_lt hib)] at hs
   have:s1=s:=by omega
   subst this
   generalize at0 a i=x at *
   simp[kU,f117,and_assoc,cR,bj,dP,h54,h0,h1,h6,h7,uL,sI,aI,bI,zI,hia,hib,hda,hw1,hw3,hw4,hwi,qE r,kH,lu,iA,bZ,g1,g2]
 ·rw[jd (Nat.le_of_not_lt hia)] at hs1
  have:s1=c:=by omega
  subst this
  by_cases hib:i<b.length
  ·have hdb:=fB b i hib
   generalize at0 b i=y at *
   simp[kU,f117,and_assoc,cR,bj,dP,h54,h0,h1,h6,h7,uL,sI,aI,bI,zI,hia,hib,hdb,hw2,hw3,hw4,hwi,qE r,kH,lu,iA,bZ,g1,g2]
  ·rw[jd (Nat.le_of_not_lt hib)] at hs
   have:s1=s:=by omega
   subst this
   have hc0:0<s1:=by omega
   simp[kU,f117,and_assoc,cR,bj,dP,h54,h0,h1,h6,h7,uL,sI,bI,zI,hia,hib,hc0,hw3,hw4,hwi,qE r,kH,lu,iA,bZ,g1,g2]
theorem wS {va vb vo x c y P s q r:Nat}(h:vo+c*P=va+vb)(hs:s=c+x+y)(hq:q=s / 10)(hr:r=s % 10) :
  vo+P*r+q*(P*10)=va+x*P+(vb+y*P):=by
 have e:s=r+10*q:=by omega
 have e2:s*P=(r+10*q)*P:=by rw[e]
 subst hs
 simp only[Nat.add_mul] at e2 ⊢
 have e3:10*q*P=q*(P*10):=by grind
 have e4:r*P=P*r:=Nat.mul_comm _ _
 omega
theorem wR (L:Lst)(run:av)(k:Nat)(a b:Ω)(ha:T.Dok a)(hb:T.Dok b)(i n:Nat)(fr:Ψ)(hp:Θ)(wr:Ω)(out:Ω)(c:Nat)(hia:a.length≤i)(hib:b.length≤i)(hi:i<20000000)
  (h54:fr.length=54) (h0:nth fr 0=bA a) (h1:nth fr 1=bA b) (h6:nth fr 6=iv c) (h7:nth fr 7=iv i) (hO:dw iv 0 hp out (nth fr 5)) (ho:out.length=i) (hd:T.Dok out) (hc:c≤1) (hv:T.val out+c*10 ^ i=T.val (a.take i)+T.val (b.take i)) :
  ∃ (fr':Ψ) (hp':Θ) (wr':Ω) (out':Ω),cg (ae (CC L) run k kU) (n+2) ⟨fr,hp,wr⟩=some (.exit 0,⟨fr',hp',wr'⟩)∧fr'.length=54∧dw iv 0 hp' out' (nth fr' 5)∧T.Dok out'∧T.val out'=T.val a+T.val b∧out'.length=i+c:=by
 by_cases hc0:c=0
 ·subst hc0
  obtain⟨fr',q1,q2,q3⟩:=zY L run k fr hp wr a b i h54 h0 h1 h6 h7 hia hib
  refine⟨fr',hp,wr,out,br q1,q2,by rw[q3];exact hO,hd,?_,ho⟩
  rw[T.cB a _ hia,T.cB b _ hib] at hv
  omega
 ·obtain⟨fr1,hp1,wr1,g1,g2,g3,g4,g5,g6,g7⟩:=tZ L run k fr hp wr a b out i c _ ha hb hc (.inr (.inr (by omega))) hi h54 h0 h1 h6 h7 hO ho rfl
  have hv':T.val (out++[(c+at0 a i+at0 b i) % 10])+(c+at0 a i+at0 b i) / 10*10 ^ (i+1)=T.val (a.take (i+1))+T.val (b.take (i+1)):=by
   rw[T.cu,T.cu,T.dI,ho,Nat.pow_succ]
   exact wS hv rfl rfl rfl
  have e1:at0 a i=0:=jd hia
  have e2:at0 b i=0:=jd hib
  have e3:(c+at0 a i+at0 b i) / 10=0:=by omega
  rw[e3] at g5 hv'
  obtain⟨fr',q1,q2,q3⟩:=zY L run k fr1 hp1 wr1 a b (i+1) g2 g3 g4 g5 g6 (by omega) (by omega)
  refine⟨fr',hp1,wr1,_,by rw[bU g1];exact br q1,q2,by rw[q3];exact g7,hd.append (T.Dok.nil.cons (Nat.mod_lt _ (by omega))),?_,by simp;omega⟩
  rw[T.cB a _ (by omega),T.cB b _ (by omega)] at hv'
  omega
theorem lT (a b:Ω):Nat.max a.length b.length≤a.length+b.length∧a.length≤Nat.max a.length b.length∧b.length≤Nat.max a.length b.length∧(Nat.max a.length b.length=a.length∨Nat.max a.length b.length=b.length):=by
 rcases Nat.le_total a.length b.length with h | h
 ·have:Nat.max a.length b.length=b.length:=Nat.max_eq_right h
  omega
 ·have:Nat.max a.length b.length=a.length:=Nat.max_eq_left h
  omega
theorem KC {a b out:Ω}{i c:Nat}(hia:a.length≤i)(hib:b.length≤i)(hi:i≤Nat.max a.length b.length)(hd:T.Dok out)(ho:out.length=i)(hc:c≤1)(hv:T.val out+c*10 ^ i=T.val (a.take i)+T.val (b.take i)) :
  i+c=Nat.max a.length b.length+(if 10 ^ Nat.max a.length b.length≤T.val a+T.val b then 1 else 0):=by
 have hm:=lT a b
 have e:Nat.max a.length b.length=i:=by omega
 rw[e]
 rw[T.cB a _ hia,T.cB b _ hib] at hv
 have h1:=T.eM hd
 rw[ho] at h1
 have:c=0∨c=1:=by omega
 rcases this with h | h
 ·subst h
  rw[if_neg (by omega)]
 ·subst h
  rw[if_pos (by omega)]
theorem wT (L:Lst)(run:av)(k:Nat)(a b:Ω)(ha:T.Dok a)(hb:T.Dok b)(hla:a.length<10000000)(hlb:b.length<10000000):∀ (n i:Nat) (fr:Ψ) (hp:Θ) (wr:Ω) (out:Ω) (c:Nat),a.length≤i+n→b.length≤i+n→i≤Nat.max a.length b.length →
  fr.length=54→nth fr 0=bA a→nth fr 1=bA b→nth fr 6=iv c→nth fr 7=iv i→dw iv 0 hp out (nth fr 5)→out.length=i→T.Dok out→c≤1→T.val out+c*10 ^ i=T.val (a.take i)+T.val (b.take i) →
  ∃ (fr':Ψ) (hp':Θ) (wr':Ω) (out':Ω),cg (ae (CC L) run k kU) (n+2) ⟨fr,hp,wr⟩=some (.exit 0,⟨fr',hp',wr'⟩)∧fr'.length=54∧dw iv 0 hp' out' (nth fr' 5)∧T.Dok out'∧T.val out'=T.val a+T.val b∧out'.length=Nat.max a.length b.length+(if 10 ^ Nat.max a.length b.length≤T.val a+T.val b then 1 else 0)
 | 0,i,fr,hp,wr,out,c,hia,hib,hi,h54,h0,h1,h6,h7,hO,ho,hd,hc,hv=>by
  obtain⟨fr',hp',wr',out',q1,q2,q3,q4,q5,q6⟩:=wR L run k a b ha hb i 0 fr hp wr out c hia hib (by have:=lT a b;omega) h54 h0 h1 h6 h7 hO ho hd hc hv
  exact⟨fr',hp',wr',out',q1,q2,q3,q4,q5,q6.trans (KC hia hib hi hd ho hc hv)⟩
 | n+1,i,fr,hp,wr,out,c,hia,hib,hi,h54,h0,h1,h6,h7,hO,ho,hd,hc,hv=>by
  by_cases hgo:i<a.length∨i<b.length
  ·have hx:=T.cn ha i
   have hy:=T.cn hb i
   obtain⟨fr1,hp1,wr1,g1,g2,g3,g4,g5,g6,g7⟩:=tZ L run k fr hp wr a b out i c _ ha hb hc (by omega) (by have:=lT a b;omega) h54 h0 h1 h6 h7 hO ho rfl
   have hv':T.val (out++[(c+at0 a i+at0 b i) % 10])+(c+at0 a i+at0 b i) / 10*10 ^ (i+1)=T.val (a.take (i+1))+T.val (b.take (i+1)):=by
    rw[T.cu,T.cu,T.dI,ho,Nat.pow_succ]
    exact wS hv rfl rfl rfl
   obtain⟨fr',hp',wr',out',q1,q2⟩:=wT L run k a b ha hb hla hlb n (i+1) fr1 hp1 wr1 _ _ (by omega) (by omega) (by have:=lT a b;omega) g2 g3 g4 g5 g6 g7 (by simp[ho]) (hd.append (T.Dok.nil.cons (Nat.mod_lt _ (by omega)))) (by omega) hv'
   exact⟨fr',hp',wr',out',by rw[bU g1];exact q1,q2⟩
  ·obtain⟨fr',hp',wr',out',q1,q2,q3,q4,q5,q6⟩:=wR L run k a b ha hb i (n+1) fr hp wr out c (by omega) (by omega) (by have:=lT a b;omega) h54 h0 h1 h6 h7 hO ho hd hc hv
   exact⟨fr',hp',wr',out',q1,q2,q3,q4,q5,q6.trans (KC (by omega) (by omega) hi hd ho hc hv)⟩
def HL:Code:=seq1 (seq1 (ai 3 mb))
theorem DQ:ai 3 mb = .seq (.seq HL (.block 0 (.loop kU))) (ai 4 mb):=rfl
theorem NH (L:Lst)(run:av)(k:Nat)(p q:PV) :
  ∃ fr,bh (CC L) run k 3 mb ⟨entry 54 [p,q],[],[]⟩=some ⟨fr,[],[]⟩∧fr.length=54∧nth fr 0=p∧nth fr 1=q∧nth fr 5 = .sc (.slice none 0 0)∧nth fr 6=iv 0:=by
 obtain⟨e1,e2,e3⟩:=cb 52 p q
 generalize entry 54 [p,q]=fr0 at *
 simp[mb,f117,bh,e1,e2,e3,iv]
theorem aap(h54:fr.length=54) :
  ∃ fr',ae (CC L) run k HL ⟨fr,hp,wr⟩=some (.normal,⟨fr',hp,wr⟩)∧fr'.length=54∧nth fr' 0=nth fr 0∧nth fr' 1=nth fr 1∧nth fr' 5=nth fr 5∧nth fr' 6=nth fr 6∧nth fr' 7=iv 0:=by
 simp[HL,mb,ai,seq1,f117,h54,iv]
theorem HK(p:PV)(h54:fr.length=54)(h5:nth fr 5=p) :
  ∃ st,ae (CC L) run k (ai 4 mb) ⟨fr,hp,wr⟩=some (.ret,st)∧aY TT st.fr st.hp f117.results.toList=some [p]∧st.hp=hp:=by
 simp[mb,ai,f117,h54,h5,aY]
def yL (a b:Ω):Ω:=T.db (Nat.max a.length b.length+(if 10 ^ Nat.max a.length b.length≤T.val a+T.val b then 1 else 0)) (T.val a+T.val b)
def wU:Ψ→Option Ψ
 | [p,q]=>match mT p,mT q with
  | some a,some b=>some [bA (yL a b)]
  | _,_=>none
 | _=>none
theorem HJ:Ab.Spec base.P 117 wU:=Ab.Spec.bL (C:=CC []) (cP trivial) fun args rs h=>by
 unfold wU at h
 split at h
 ·split at h
  ·rename_i a b ea eb
   obtain⟨rfl,ha,hla⟩:=fW ea
   obtain⟨rfl,hb,hlb⟩:=fW eb
   simp only[OiE] at h
   subst h
   obtain⟨fr0,h1,h2,h3,h4,h5,h6⟩:=NH [] (runK (CC []) (a.length+b.length+2)) (a.length+b.length+2) (bA a) (bA b)
   obtain⟨fr1,g1,g2,g3,g4,g5,g6,g7⟩:=aap [] (runK (CC []) (a.length+b.length+2)) (a.length+b.length+2) fr0 [] [] h2
   obtain⟨fr2,hp2,wr2,out,q1,q2,q3,q4,q5,q6⟩:=wT [] (runK (CC []) (a.length+b.length+2)) (a.length+b.length+2) a b ha hb hla hlb (a.length+b.length) 0 fr1 [] [] [] 0 (by omega) (by omega) (by omega) g2 (by rw[g3,h3]) (by rw[g4,h4]) (by rw[g6,h6]) g7 (by rw[g5,h5];exact dw.nil (Nat.le_refl _)) rfl T.Dok.nil (by omega) (by simp[T.val])
   obtain⟨st,e1,e2,e3⟩:=HK [] (runK (CC []) (a.length+b.length+2)) (a.length+b.length+2) fr2 hp2 wr2 _ q2 rfl
   have hx:ae (CC []) (runK (CC []) (a.length+b.length+2)) (a.length+b.length+2) mb ⟨entry 54 [bA a,bA b],[],[]⟩=some (.ret,st):=by
    rw[aU 3 h1,DQ,ao ((ao g1).trans (bD q1))]
    exact e1
   have hout:out=yL a b:=q4.pQ q6 q5
   obtain⟨rs2,ids,r1,r2⟩:=q3.s.Iu iX
   rw[hout] at r2
   exact⟨a.length+b.length+3,_,_,_,rs2,ids,aZ JM rfl hx e2,by rw[e3];exact r1,r2⟩
  ·cases h
 ·cases h
theorem tr {L:Lst}{g:Nat}{f:Ψ→Option Ψ}(hs:base.shared g=false)(ho:bC L g=fun a=>f (aK a))(run:av)(dr:Bool){α:Type}{e:α→PV}(he:Sc1 e){b:Nat}{hp:Θ}{l:List α}{p:PV}
  (hO:jR e b hp l p) (rs:Ψ) (h3:f [mE e l]=some rs):∃ hp' fp,bS (CC L) run dr hp g [p]=some (iL rs,hp',fp)∧(∀ i,i<b→aX hp' i=aX hp i)∧hp'.length=hp.length:=by
 obtain⟨q,ids,h1,h2,h4⟩:=hO.arg he
 have h5:bu (snap hp bn) [p]=some ([q],ids++[]):=by
  show bu (snap hp 12) _=_
  simp only[bu,h1]
 have h6:(CC L).orc g [q]=some rs:=by
  show bC L g [q]=_
  rw[ho];show f (aK [q])=_
  simp only[aK,h2,h3]
 rw[append_nil] at h5
 by_cases h:rs.all eg=true
 ·exact⟨_,_,lQ hs h5 h6 h,fun _ _=>rfl,rfl⟩
 ·exact⟨_,_,eI hs h5 h6 (by simpa using h),h4,eX _ _⟩
theorem o9 {L:Lst}{g:Nat}{f:Ψ→Option Ψ}(hs:base.shared g=false)(ho:bC L g=fun a=>f (aK a))(run:av)(dr:Bool){α:Type}{e:α→PV}(he:Sc1 e){b:Nat}{hp:Θ}{l:List α}{p:PV}(x:Bool)
  (hO:jR e b hp l p) (rs:Ψ) (h3:f [.sc (.bool x),mE e l]=some rs):∃ hp' fp,bS (CC L) run dr hp g [.sc (.bool x),p]=some (iL rs,hp',fp)∧∀ i,i<b→aX hp' i=aX hp i:=by
 obtain⟨q,ids,h1,h2,h4⟩:=hO.arg he
 have h5:bu (snap hp bn) [.sc (.bool x),p]=some ([.sc (.bool x),q],[]++(ids++[])):=by
  show bu (snap hp 12) _=_
  simp only[bu,h1]
  rfl
 have h6:(CC L).orc g [.sc (.bool x),q]=some rs:=by
  show bC L g [.sc (.bool x),q]=_
  rw[ho];show f (aK [.sc (.bool x),q])=_
  simp only[aK,h2]
  exact h3
 rw[append_nil,nil_append] at h5
 by_cases h:rs.all eg=true
 ·exact⟨_,_,lQ hs h5 h6 h,fun _ _=>rfl⟩
 ·exact⟨_,_,eI hs h5 h6 (by simpa using h),h4⟩
def LT1:Lst:=[(156,iw)]
theorem JF:dt base.P LT1:=⟨tU,trivial⟩
theorem xA:bC LT1 156=fun a=>iw (aK a):=rfl
def me:Code:=((f119.body).bind az).getD .skip
def mc:Code:=f119.body.getD .skip
theorem N1(a:Ω)(h41:fr.length=41)(h0:nth fr 0=bA a)(h7:nth fr 7=iv a.length) :
  ∃ fr',ae (CC L) run k me ⟨fr,hp,wr⟩=some (.exit 0,⟨fr',hp,wr⟩)∧fr'.length=41∧nth fr' 5=nth fr 5:=by
 simp only[iv] at h7
 simp[me,f119,dN,h41,h0,h7,uL]
set_option maxHeartbeats 4000000 in
theorem Ea(a b out:Ω)(i c X c':Nat)(ha:T.Dok a)(hb:T.Dok b)(hc:c≤1)(hi:i<a.length)(hi9:i<20000000)
  (hX:(at0 b i+c≤at0 a i∧X=at0 a i - (at0 b i+c)∧c'=0)∨(at0 a i<at0 b i+c∧X=at0 a i+10 - (at0 b i+c)∧c'=1))
  (h41:fr.length=41) (h0:nth fr 0=bA a) (h1:nth fr 1=bA b) (h6:nth fr 6=iv c) (h7:nth fr 7=iv i) (hO:dw iv 0 hp out (nth fr 5)) (ho:out.length=i) :
  ∃ fr' hp' wr',ae (CC L) run k me ⟨fr,hp,wr⟩=some (.normal,⟨fr',hp',wr'⟩)∧fr'.length=41∧nth fr' 0=bA a∧nth fr' 1=bA b∧nth fr' 6=iv c'∧nth fr' 7=iv (i+1)∧dw iv 0 hp' (out++[X]) (nth fr' 5):=by
 have ha9:=T.cn ha i
 have hb9:=T.cn hb i
 obtain⟨p',hp',fp,g1,g2,-⟩:=hO.app X (by omega)
 have hlX:fP TT 24 1 [(0,.sc (.int .i64 (X:Int)))]=some (1,[iv X]):=kH X
 obtain⟨z1,hz1⟩:∃ z1,z1=(at0 a i:Int) - (c:Int):=⟨_,rfl⟩
 have hw1:bB .i64 ((at0 a i:Int) - (c:Int))=z1:=by rw[hz1];exact fi _ (by omega) (by omega)
 obtain⟨z,hz⟩:∃ z,z=z1 - (at0 b i:Int):=⟨_,rfl⟩
 have hw2:bB .i64 (z1 - (at0 b i:Int))=z:=by rw[hz];exact fi _ (by omega) (by omega)
 have hwi:=bE i (by omega)
 have e1:bA a = .imm a.length false (a.map iv):=rfl
 have e2:bA b = .imm b.length false (b.map iv):=rfl
 rw[e1] at h0 ⊢;rw[e2] at h1 ⊢
 have hda:=fB a i hi
 simp only[iv] at h6 h7 ⊢
 by_cases hib:i<b.length
 ·have hdb:=fB b i hib
  generalize at0 a i=x at *
  generalize at0 b i=y at *
  rcases hX with ⟨hA,hB,hC⟩| ⟨hA,hB,hC⟩
  ·have e3:z=(X:Int):=by omega
   have e4 : ¬ ((X:Int)<0):=by omega
   subst hC
   rw[e3] at hw2
   simp[me,f119,and_assoc,cR,bj,dP,h41,h0,h1,h6,h7,uL,sI,aI,bI,zI,hi,hib,hda,hdb,hw1,hw2,e4,hwi,hlX,lu,iA,bZ,g1,g2]
  ·have e3:z<0:=by omega
   have e4:bB .i64 (z+10)=(X:Int):=by rw[show z+10=(X:Int) by omega];exact cp .i64 X (hiI (by omega))
   subst hC
   simp[me,f119,and_assoc,cR,bj,dP,h41,h0,h1,h6,h7,uL,sI,aI,bI,zI,hi,hib,hda,hdb,hw1,hw2,e3,e4,hwi,hlX,lu,iA,bZ,g1,g2]
 ·rw[jd (Nat.le_of_not_lt hib)] at hX hz
  generalize at0 a i=x at *
  rcases hX with ⟨hA,hB,hC⟩| ⟨hA,hB,hC⟩
  ·have e3:z1=(X:Int):=by omega
   have e4 : ¬ ((X:Int)<0):=by omega
   subst hC
   rw[e3] at hw1
   simp[me,f119,and_assoc,cR,bj,dP,h41,h0,h1,h6,h7,uL,sI,aI,bI,zI,hi,hib,hda,hw1,e4,hwi,hlX,lu,iA,bZ,g1,g2]
  ·have e3:z1<0:=by omega
   have e4:bB .i64 (z1+10)=(X:Int):=by rw[show z1+10=(X:Int) by omega];exact cp .i64 X (hiI (by omega))
   subst hC
   simp[me,f119,and_assoc,cR,bj,dP,h41,h0,h1,h6,h7,uL,sI,aI,bI,zI,hi,hib,hda,hw1,e3,e4,hwi,hlX,lu,iA,bZ,g1,g2]
theorem Ic {va vb vo c x y P X c':Nat}(h:vo+vb=va+c*P)(hX:(y+c≤x∧X=x - (y+c)∧c'=0)∨(x<y+c∧X=x+10 - (y+c)∧c'=1))(hb:y+c≤10) :
  vo+P*X+(vb+y*P)=va+x*P+c'*(P*10):=by
 have e:X+y+c=x+10*c':=by omega
 have e2:(X+y+c)*P=(x+10*c')*P:=by rw[e]
 simp only[Nat.add_mul] at e2
 have e3:10*c'*P=c'*(P*10):=by grind
 have e4:X*P=P*X:=Nat.mul_comm _ _
 omega
theorem xe (L:Lst)(run:av)(k:Nat)(a b:Ω)(ha:T.Dok a)(hb:T.Dok b)(hla:a.length<10000000):∀ (n i:Nat) (fr:Ψ) (hp:Θ) (wr:Ω) (out:Ω) (c:Nat),i+n=a.length →
  fr.length=41→nth fr 0=bA a→nth fr 1=bA b→nth fr 6=iv c→nth fr 7=iv i→dw iv 0 hp out (nth fr 5)→out.length=i→T.Dok out→c≤1→T.val out+T.val (b.take i)=T.val (a.take i)+c*10 ^ i →
  ∃ (fr':Ψ) (hp':Θ) (wr':Ω) (out':Ω) (c':Nat),cg (ae (CC L) run k me) (n+1) ⟨fr,hp,wr⟩=some (.exit 0,⟨fr',hp',wr'⟩)∧fr'.length=41∧dw iv 0 hp' out' (nth fr' 5)∧out'.length=a.length∧T.Dok out'∧c'≤1∧T.val out'+T.val (b.take a.length)=T.val a+c'*10 ^ a.length
 | 0,i,fr,hp,wr,out,c,hin,h41,h0,h1,h6,h7,hO,ho,hd,hc,hv=>by
  have:i=a.length:=by omega
  subst this
  obtain⟨fr',q1,q2,q3⟩:=N1 L run k fr hp wr a h41 h0 h7
  exact⟨fr',hp,wr,out,c,br q1,q2,by rw[q3];exact hO,ho,hd,hc,by rw[hv,take_length]⟩
 | n+1,i,fr,hp,wr,out,c,hin,h41,h0,h1,h6,h7,hO,ho,hd,hc,hv=>by
  have hx:=T.cn ha i
  have hy:=T.cn hb i
  obtain⟨X,c',hX⟩:∃ X c',(at0 b i+c≤at0 a i∧X=at0 a i - (at0 b i+c)∧c'=0)∨(at0 a i<at0 b i+c∧X=at0 a i+10 - (at0 b i+c)∧c'=1):=by
   rcases Nat.lt_or_ge (at0 a i) (at0 b i+c) with h | h
   ·exact⟨_,_,.inr ⟨h,rfl,rfl⟩⟩
   ·exact⟨_,_,.inl ⟨h,rfl,rfl⟩⟩
  obtain⟨fr1,hp1,wr1,g1,g2,g3,g4,g5,g6,g7⟩:=Ea L run k fr hp wr a b out i c X c' ha hb hc (by omega) (by omega) hX h41 h0 h1 h6 h7 hO ho
  obtain⟨fr',hp',wr',out',c'',q1,q2⟩:=xe L run k a b ha hb hla n (i+1) fr1 hp1 wr1 _ _ (by omega) g2 g3 g4 g5 g6 g7 (by simp[ho]) (hd.append (T.Dok.nil.cons (by omega))) (by omega) (by
   rw[T.cu,T.cu,T.dI,ho,Nat.pow_succ]
   exact Ic hv hX (by omega))
  exact⟨fr',hp',wr',out',c'',by rw[bU g1];exact q1,q2⟩
def Ig:Code:=seq1 (seq1 (ai 3 mc))
theorem D0:ai 3 mc = .seq (.seq Ig (.block 0 (.loop me))) (ai 4 mc):=rfl
theorem N0 (L:Lst)(run:av)(k:Nat)(p q:PV) :
  ∃ fr,bh (CC L) run k 3 mc ⟨entry 41 [p,q],[],[]⟩=some ⟨fr,[],[]⟩∧fr.length=41∧nth fr 0=p∧nth fr 1=q∧nth fr 5 = .sc (.slice none 0 0)∧nth fr 6=iv 0:=by
 obtain⟨e1,e2,e3⟩:=cb 39 p q
 generalize entry 41 [p,q]=fr0 at *
 simp[mc,f119,bh,e1,e2,e3,iv]
theorem aaC(h41:fr.length=41) :
  ∃ fr',ae (CC L) run k Ig ⟨fr,hp,wr⟩=some (.normal,⟨fr',hp,wr⟩)∧fr'.length=41∧nth fr' 0=nth fr 0∧nth fr' 1=nth fr 1∧nth fr' 5=nth fr 5∧nth fr' 6=nth fr 6∧nth fr' 7=iv 0:=by
 simp[Ig,mc,ai,seq1,f119,h41,iv]
theorem Ie (run:av)(k:Nat)(fr:Ψ)(hp hp':Θ)(wr:Ω)(p q:PV)(fp:FP)(h41:fr.length=41)(h5:nth fr 5=p)(hc:bS (CC LT1) run false hp 156 [p]=some (q,hp',fp)) :
  ∃ st,ae (CC LT1) run k (ai 4 mc) ⟨fr,hp,wr⟩=some (.ret,st)∧aY TT st.fr st.hp f119.results.toList=some [q]:=by
 simp[mc,ai,f119,aM,h41,h5,hc,aY]
def nD:Ψ→Option Ψ
 | [p,q]=>match mT p,mT q with
  | some a,some b=>bif b.length.ble a.length && (T.val b).ble (T.val a) then some [bA (T.aJ (T.val a - T.val b))] else none
  | _,_=>none
 | _=>none
theorem xd:Ab.Spec base.P 119 nD:=Ab.Spec.bL (C:=CC LT1) (cP JF) fun args rs h=>by
 unfold nD at h
 split at h
 ·split at h
  ·rename_i a b ea eb
   obtain⟨rfl,ha,hla⟩:=fW ea
   obtain⟨rfl,hb,hlb⟩:=fW eb
   cases hg:b.length.ble a.length && (T.val b).ble (T.val a) with
   | false=>rw[hg] at h;cases h
   | true =>
    rw[hg] at h
    simp only[cond_true,OiE] at h
    subst h
    simp only[Bool.and_eq_true,Nat.ble_eq] at hg
    obtain⟨fr0,h1,h2,h3,h4,h5,h6⟩:=N0 LT1 (runK (CC LT1) (a.length+1)) (a.length+1) (bA a) (bA b)
    obtain⟨fr1,g1,g2,g3,g4,g5,g6,g7⟩:=aaC LT1 (runK (CC LT1) (a.length+1)) (a.length+1) fr0 [] [] h2
    obtain⟨fr2,hp2,wr2,out,c,q1,q2,q3,q4,q5,q6,q7⟩:=xe LT1 (runK (CC LT1) (a.length+1)) (a.length+1) a b ha hb hla a.length 0 fr1 [] [] [] 0 (by omega) g2 (by rw[g3,h3]) (by rw[g4,h4]) (by rw[g6,h6]) g7 (by rw[g5,h5];exact dw.nil (Nat.le_refl _)) rfl T.Dok.nil (by omega) (by simp[T.val])
    rw[T.cB b _ hg.1] at q7
    have hlt:=T.eM q5
    rw[q4] at hlt
    have hv:T.val out=T.val a - T.val b:=by
     have:c=0∨c=1:=by omega
     rcases this with h | h <;> subst h <;> omega
    obtain⟨hp3,fp,c1,-⟩:=tr lr xA (runK (CC LT1) (a.length+1)) false iX q3.s [bA (T.ff out)] (by
     have:=dQ q5 (show out.length<10000000 by omega)
     simp only[bA] at this
     simp only[iw,this])
    rw[T.eA q5,hv] at c1
    obtain⟨st,e1,e2⟩:=Ie (runK (CC LT1) (a.length+1)) (a.length+1) fr2 hp2 hp3 wr2 _ _ fp q2 rfl c1
    have hx:ae (CC LT1) (runK (CC LT1) (a.length+1)) (a.length+1) mc ⟨entry 41 [bA a,bA b],[],[]⟩=some (.ret,st):=by
     rw[aU 3 h1,D0,ao ((ao g1).trans (bD q1))]
     exact e1
    exact⟨a.length+2,_,_,_,_,_,aZ Gf rfl hx e2,pJ _ _,Wk.refl rfl,trivial⟩
  ·cases h
 ·cases h
end Go.Proofs.YtjdmodeenbdfpaaGreat
end
